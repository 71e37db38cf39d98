/- StoreAll of the program and of the reference answer the same for all arguments. -/
import Derived.Test.YtjhodohmifemiaaPFnExactStoreAllx0
import Derived.Test.YtjhodohmifemiaaPFnExactStoreAllx1
import Derived.Test.YtjhodohmifemiaaPFnExactStoreAllx2
import Derived.Test.YtjhodohmifemiaaPFnExactStoreAllx3
import Derived.Test.YtjhodohmifemiaaLib
namespace Go.Proofs.Ytjhodohmifemiaa.Pure
open Go.RowKit Go.Proofs.Ytjhodohmifemiaa.PFnExactStoreAll Go.Proofs.YtjhodohmifemiaaW.PrintWords Go.Proofs.YtjhodohmifemiaaW.PrintLast Go.Proofs.Ytjhodohmifemiaa.L
set_option linter.unusedVariables false
set_option linter.unusedSimpArgs false

/-- A loop that asks one thing of each. -/
theorem Ev.all (n : Nat) (p : Nat → Bool) (g : Nat → Int → Option Bool)
    (step : ∀ i : Nat, i < n → ∀ r : Bool, Ev (fun k => g k ((i : Int) + 1)) r → Ev (fun k => g k (i : Int)) (p i && r))
    (last : Ev (fun k => g k (n : Int)) true) : Ev (fun k => g k 0) ((List.range n).all p) := by
  have main : ∀ d i : Nat, i + d = n → Ev (fun k => g k (i : Int)) ((List.range' i d).all p) := by
    intro d
    induction d with
    | zero =>
      intro i hi
      obtain rfl : i = n := by omega
      exact last
    | succ d ih =>
      intro i hi
      have h := step i (by omega) _ (ih (i + 1) (by omega))
      rw [List.range'_succ, List.all_cons]
      exact h
  have := main n 0 (by omega)
  rw [List.range_eq_range']
  exact this

theorem toInt64S (l : List Int) (hl : l.length ≤ 35184372088832) : Ev (fun k => laws_toInt64S.f k l) l := by
  unfold laws_toInt64S.f
  refine Ev.pos (by omega) (Ev.pos (by omega) ?_)
  refine Ev.cast (Ev.upto l.length (fun _ => True) (fun i => l.take i ++ List.replicate (l.length - i) 0) l (fun k s i => laws_toInt64S.l0 k l s i) (fun i hi _ ih => ?_) (fun _ => ?_) trivial) rfl
  · refine Ev.succ ?_
    simp only [laws_toInt64S.l0]
    refine Ev.pos (by omega) (Ev.pos (by omega) (Ev.pos (by simp; omega) ?_))
    rw [wrap_id (by omega) (by omega), Int.toNat_natCast, rd_lt l i hi, take_set_rep l i hi]
    exact ih trivial
  · refine Ev.succ ?_
    simp only [laws_toInt64S.l0]
    exact Ev.neg (by omega) (Ev.val (by simp))

theorem toRule (s r : Int) (t : List Int) (hl : t.length ≤ 35184372088832) : Ev (fun k => laws_toRule.f k s r t) (s, r, t) := by
  unfold laws_toRule.f
  exact Ev.bind (toInt64S t hl) (Ev.now _)

theorem toField (s r : Int) (t : List Int) (hl : t.length ≤ 35184372088832) : Ev (fun k => laws_toField.f k s r t) (s, r, t) := by
  unfold laws_toField.f
  exact Ev.bind (toInt64S t hl) (Ev.now _)

theorem toSaved (nm : ByteArray) (s r : Int) (t : List Int) (p q : Int) (l : List Int) (ht : t.length ≤ 35184372088832) (hl : l.length ≤ 35184372088832) : Ev (fun k => laws_toSaved.f k nm s r t p q l) (nm, s, r, t, p, q, l) := by
  unfold laws_toSaved.f
  exact Ev.bind (toRule s r t ht) (Ev.bind (toField p q l hl) (Ev.now _))

theorem eqInt64S (l m : List Int) (hl : l.length ≤ 35184372088832) : Ev (fun k => laws_eqInt64S.f k l m) (decide (l = m)) := by
  unfold laws_eqInt64S.f
  by_cases h : l.length = m.length
  · refine Ev.pos (by omega) ?_
    refine Ev.upto l.length (fun i => ∀ j, j < i → l[j]? = m[j]?) (fun _ => ()) _ (fun k _ i => laws_eqInt64S.l0 k l m i) (fun i hi hp ih => ?_) (fun hp => ?_) (fun j hj => by omega)
    · refine Ev.succ ?_
      simp only [laws_eqInt64S.l0]
      refine Ev.pos (by omega) (Ev.pos (by omega) (Ev.pos (by omega) ?_))
      rw [rd_lt l i (by omega), rd_lt m i (by omega)]
      by_cases e : l[i] = m[i]
      · refine Ev.pos e ?_
        rw [wrap_id (by omega) (by omega)]
        exact ih (fun j hj' => by
          by_cases hji : j < i
          · exact hp j hji
          · obtain rfl : j = i := by omega
            rw [List.getElem?_eq_getElem (by omega), List.getElem?_eq_getElem (by omega), e])
      · refine Ev.neg e (Ev.val ?_)
        rw [eq_comm, Option.some.injEq, decide_eq_false_iff_not]
        rintro rfl
        exact e rfl
    · refine Ev.succ ?_
      simp only [laws_eqInt64S.l0]
      refine Ev.neg (by omega) (Ev.val ?_)
      have : l = m := List.ext_getElem? (fun j => by
        by_cases hjl : j < l.length
        · exact hp j (by omega)
        · rw [List.getElem?_eq_none (by omega), List.getElem?_eq_none (by omega)])
      simp [this]
  · refine Ev.neg (by omega) (Ev.val ?_)
    rw [eq_comm, Option.some.injEq, decide_eq_false_iff_not]
    rintro rfl
    exact h rfl

theorem eqRule (s r : Int) (t : List Int) (s' r' : Int) (t' : List Int) (hl : t.length ≤ 35184372088832) : Ev (fun k => laws_eqRule.f k s r t s' r' t') (decide (s = s' ∧ r = r' ∧ t = t')) := by
  unfold laws_eqRule.f
  by_cases h1 : s = s'
  · refine Ev.pos h1 ?_
    by_cases h2 : r = r'
    · refine Ev.pos h2 (Ev.bind (eqInt64S t t' hl) ?_)
      by_cases h3 : t = t'
      · exact Ev.pos (by simpa using h3) (Ev.val (by simp [h1, h2, h3]))
      · exact Ev.neg (by simpa using h3) (Ev.val (by simp [h3]))
    · exact Ev.neg h2 (Ev.val (by simp [h2]))
  · exact Ev.neg h1 (Ev.val (by simp [h1]))

theorem eqField (s r : Int) (t : List Int) (s' r' : Int) (t' : List Int) (hl : t.length ≤ 35184372088832) : Ev (fun k => laws_eqField.f k s r t s' r' t') (decide (s = s' ∧ r = r' ∧ t = t')) := by
  unfold laws_eqField.f
  exact Ev.cast (Ev.andP (fun _ => Ev.andP (fun _ => Ev.eqs (eqInt64S t t' hl)))) (by simp only [Bool.decide_and])

theorem eqSaved (nm : ByteArray) (s r : Int) (t : List Int) (p q : Int) (l : List Int) (ht : t.length ≤ 35184372088832) (hl : l.length ≤ 35184372088832) : Ev (fun k => laws_eqSaved.f k nm s r t p q l nm s r t p q l) true := by
  unfold laws_eqSaved.f
  exact Ev.pos rfl (Ev.bind (eqRule _ _ _ _ _ _ ht) (Ev.pos (by simp) (Ev.bind (eqField _ _ _ _ _ _ hl) (Ev.pos (by simp) (Ev.now _)))))

theorem szInt64S (l : List Int) (a : Int) (hl : l.length ≤ 35184372088832) (h0 : -1000000000000 ≤ a) (h1 : a ≤ 1000000000000) : laws_szInt64S.f l a = some (if a - l.length < 0 then -1 else a - l.length) := by
  unfold laws_szInt64S.f
  rw [wrap_id (x := a - l.length) (by omega) (by omega)]
  split <;> rfl

theorem szRule (s r : Int) (t : List Int) (a : Int) (hl : t.length ≤ 35184372088832) (h0 : 0 ≤ a) (h1 : a ≤ 1000000000) : laws_szRule.f s r t a = some (if a - t.length < 0 then -1 else a - t.length) := by
  unfold laws_szRule.f
  rw [szInt64S t a hl (by omega) (by omega)]
  by_cases c : a - (t.length : Int) < 0
  · rw [if_pos c]; rfl
  · rw [if_neg c]
    show (if _ then _ else _) = _
    rw [if_neg c]

theorem szField (s r : Int) (t : List Int) (a : Int) (hl : t.length ≤ 35184372088832) (h0 : 0 ≤ a) (h1 : a ≤ 1000000000) : laws_szField.f s r t a = some (if a - t.length < 0 then -1 else a - t.length) := by
  unfold laws_szField.f
  rw [szInt64S t a hl (by omega) (by omega)]
  by_cases c : a - (t.length : Int) < 0
  · rw [if_pos c]; rfl
  · rw [if_neg c]
    show (if _ then _ else _) = _
    rw [if_neg c]

/-- What came in, as the program's own. -/
def convS (x : S61) : S68 := ⟨x.f0, ⟨x.f1.f0, x.f1.f1, x.f1.f2⟩, ⟨x.f2.f0, x.f2.f1, x.f2.f2⟩⟩
theorem rdL (l : List S61) (i : Nat) (h : i < l.length) : rd_T61 l (i : Int) = l[i] := by
  unfold rd_T61; rw [Int.toNat_natCast, List.getD_eq_getElem?_getD, List.getElem?_eq_getElem h]; rfl
theorem rdI (l : List S68) (i : Nat) (h : i < l.length) : rd_T68 l (i : Int) = l[i] := by
  unfold rd_T68; rw [Int.toNat_natCast, List.getD_eq_getElem?_getD, List.getElem?_eq_getElem h]; rfl
/-- The rows of all are not too long. -/
def SmallL (l : List S61) : Prop := ∀ x ∈ l, x.f0.size ≤ 140737488351232 ∧ x.f1.f2.length ≤ 17592186044416 ∧ x.f2.f2.length ≤ 17592186044416
def SmallI (l : List S68) : Prop := ∀ x ∈ l, x.f0.size ≤ 140737488351232 ∧ x.f1.f2.length ≤ 17592186044416 ∧ x.f2.f2.length ≤ 17592186044416
theorem SmallL.conv {l : List S61} (h : SmallL l) : SmallI (l.map convS) := by
  intro x hx
  obtain ⟨y, hy, rfl⟩ := List.mem_map.1 hx
  exact h y hy
theorem toSavedS (l : List S61) (hl : l.length ≤ 2932031007402) (hs : SmallL l) : Ev (fun k => laws_toSavedS.f k l) (l.map convS) := by
  unfold laws_toSavedS.f
  rw [Int.toNat_natCast]
  refine Ev.pos (by omega) (Ev.pos (by omega) ?_)
  refine Ev.congr (fun k => ?_) (Ev.upto l.length (fun _ => True) (fun i => (l.map convS).take i ++ (List.replicate l.length z68).drop i) (l.map convS) (fun k s i => laws_toSavedS.l0 k l s i) (fun i hi _ ih => ?_) (fun _ => ?_) trivial)
  · simp
  · refine Ev.succ ?_
    simp only [laws_toSavedS.l0]
    have hx := hs l[i] (List.getElem_mem hi)
    have h1 := take_drop_set (l.map convS) (List.replicate l.length z68) i (by simpa using hi) (by simp)
    have ih' := ih trivial
    rw [← h1] at ih'
    rw [rdL l i hi, wrap_id (x := (i : Int) + 1) (by omega) (by omega), Int.toNat_natCast]
    refine Ev.pos (by omega) (Ev.pos (by omega) (Ev.bind (toSaved _ _ _ _ _ _ _ (by omega) (by omega)) (Ev.pos (by simp; omega) ?_)))
    rw [List.getElem_map] at ih'
    exact ih'
  · refine Ev.succ ?_
    simp only [laws_toSavedS.l0]
    rw [List.drop_of_length_le (by simp), List.append_nil, List.take_of_length_le (by simp)]
    exact Ev.neg (by omega) (Ev.now _)
theorem eqSavedS (l : List S68) (hl : l.length ≤ 2932031007402) (hs : SmallI l) : Ev (fun k => laws_eqSavedS.f k l l) true := by
  unfold laws_eqSavedS.f
  refine Ev.pos rfl ?_
  refine Ev.upto l.length (fun _ => True) (fun _ => ()) true (fun k _ i => laws_eqSavedS.l0 k l l i) (fun i hi _ ih => ?_) (fun _ => ?_) trivial
  · refine Ev.succ ?_
    simp only [laws_eqSavedS.l0]
    have hx := hs l[i] (List.getElem_mem hi)
    have ih' := ih trivial
    rw [rdI l i hi, wrap_id (x := (i : Int) + 1) (by omega) (by omega)]
    exact Ev.pos (by omega) (Ev.pos (by omega) (Ev.pos (by omega) (Ev.bind (eqSaved _ _ _ _ _ _ _ (by omega) (by omega)) (Ev.pos rfl ih'))))
  · refine Ev.succ ?_
    simp only [laws_eqSavedS.l0]
    exact Ev.neg (by omega) (Ev.now _)
theorem szSavedA (nm : ByteArray) (s r : Int) (t : List Int) (p q : Int) (l : List Int) (a : Int) (h0 : 0 ≤ a) (h1 : a ≤ 1048576) (hn : nm.size ≤ 140737488351232) (ht : t.length ≤ 17592186044416) (hl : l.length ≤ 17592186044416) : ∃ n, laws_szSaved.f nm s r t p q l a = some n ∧ (¬ n < 0 → n ≤ a) := by
  unfold laws_szSaved.f
  rw [wrap_id (x := a - (nm.size : Int)) (by omega) (by omega)]
  by_cases c : a - (nm.size : Int) < 0
  · rw [if_pos c]; exact ⟨-1, rfl, fun h => absurd (by omega) h⟩
  · rw [if_neg c, szRule s r t _ (by omega) (by omega) (by omega)]
    simp only [Option.bind_some]
    by_cases c1 : a - (nm.size : Int) - t.length < 0
    · rw [if_pos c1, if_pos (by omega)]; exact ⟨-1, rfl, fun h => absurd (by omega) h⟩
    · rw [if_neg c1, if_neg c1, szField p q l _ (by omega) (by omega) (by omega)]
      simp only [Option.bind_some]
      by_cases c2 : a - (nm.size : Int) - t.length - l.length < 0
      · rw [if_pos c2, if_pos (by omega)]; exact ⟨-1, rfl, fun h => absurd (by omega) h⟩
      · rw [if_neg c2, if_neg c2]; exact ⟨_, rfl, fun _ => by omega⟩
theorem szSavedS (l : List S61) (a : Int) (h0 : 0 ≤ a) (h1 : a ≤ 1048576) (hl : l.length ≤ 2932031007402) (hs : SmallL l) : ∃ n, Ev (fun k => laws_szSavedS.f k l a) n ∧ (¬ n < 0 → n ≤ 1048576) := by
  unfold laws_szSavedS.f
  rw [wrap_id (x := a - (l.length : Int)) (by omega) (by omega)]
  by_cases c : a - (l.length : Int) < 0
  · exact ⟨-1, Ev.pos c (Ev.now _), fun h => absurd (by omega) h⟩
  · have main : ∀ d i : Nat, i + d = l.length → ∀ b : Int, 0 ≤ b → b ≤ 1048576 → ∃ n, Ev (fun k => laws_szSavedS.l0 k l b (i : Int)) n ∧ (¬ n < 0 → n ≤ 1048576) := by
      intro d
      induction d with
      | zero =>
        intro i hi b hb0 hb1
        refine ⟨b, Ev.succ ?_, fun _ => hb1⟩
        simp only [laws_szSavedS.l0]
        exact Ev.neg (by omega) (Ev.now _)
      | succ d ih =>
        intro i hi b hb0 hb1
        have hil : i < l.length := by omega
        have hx := hs l[i] (List.getElem_mem hil)
        obtain ⟨n, hn1, hn2⟩ := szSavedA l[i].f0 l[i].f1.f0 l[i].f1.f1 l[i].f1.f2 l[i].f2.f0 l[i].f2.f1 l[i].f2.f2 b hb0 hb1 hx.1 hx.2.1 hx.2.2
        by_cases g : n < 0
        · refine ⟨-1, Ev.succ ?_, fun h => absurd (by omega) h⟩
          simp only [laws_szSavedS.l0]
          rw [rdL l i hil]
          exact Ev.pos (by omega) (Ev.pos (by omega) (Ev.bnd hn1 (Ev.pos g (Ev.now _))))
        · obtain ⟨m, hm1, hm2⟩ := ih (i + 1) (by omega) n (by omega) (by have := hn2 g; omega)
          refine ⟨m, Ev.succ ?_, hm2⟩
          simp only [laws_szSavedS.l0]
          rw [rdL l i hil, wrap_id (x := (i : Int) + 1) (by omega) (by omega)]
          exact Ev.pos (by omega) (Ev.pos (by omega) (Ev.bnd hn1 (Ev.neg g hm1)))
    obtain ⟨n, hn1, hn2⟩ := main l.length 0 (by omega) (a - l.length) (by omega) (by omega)
    exact ⟨n, Ev.neg c hn1, hn2⟩

theorem nameSpec (s : ByteArray) (hl : s.size ≤ 140737488351232) : Ev (fun k => spec_l07Name.f k s) (cd (nameOk s)) := by
  unfold spec_l07Name.f
  refine Ev.upto s.size (fun n => ∀ i : Nat, i < n → 97 ≤ bt s (i : Int) ∧ bt s (i : Int) ≤ 122) (fun _ => ()) _ (fun k _ i => spec_l07Name.l0 k s i) (fun i hi hp ih => ?_) (fun hp => ?_) (fun j hj => by omega)
  · refine Ev.succ ?_
    simp only [spec_l07Name.l0]
    rw [wrap_id (x := (i : Int) + 1) (by omega) (by omega)]
    refine Ev.pos (by omega) (Ev.pos (by omega) ?_)
    by_cases c1 : bt s (i : Int) < 97
    · exact Ev.pos c1 (Ev.val (by rw [cd_false]; intro h; have := h.1 i hi; omega))
    · refine Ev.neg c1 ?_
      by_cases c2 : bt s (i : Int) > 122
      · exact Ev.pos c2 (Ev.val (by rw [cd_false]; intro h; have := h.1 i hi; omega))
      · refine Ev.neg c2 (ih (fun j hj => ?_))
        by_cases e : j < i
        · exact hp j e
        · obtain rfl : j = i := by omega
          omega
  · refine Ev.succ ?_
    simp only [spec_l07Name.l0]
    refine Ev.neg (by omega) ?_
    by_cases c : (s.size : Int) ≥ 1
    · refine Ev.pos c (Ev.val ?_)
      by_cases c2 : (s.size : Int) ≤ 8
      · rw [decide_eq_true c2, cd_true ⟨hp, by omega, by omega⟩]
      · rw [decide_eq_false c2, cd_false (fun h => c2 (by have := h.2.2; omega))]
    · exact Ev.neg c (Ev.val (by rw [cd_false (fun h => c (by have := h.2.1; omega))]))
theorem nameImpl (s : ByteArray) (hl : s.size ≤ 140737488351232) : Ev (fun k => impl_IsName.f k s) (cd (nameOk s)) := by
  unfold impl_IsName.f
  refine Ev.upto s.size (fun n => ∀ i : Nat, i < n → 97 ≤ bt s (i : Int) ∧ bt s (i : Int) ≤ 122) (fun _ => ()) _ (fun k _ i => impl_IsName.l0 k s s.size i) (fun i hi hp ih => ?_) (fun hp => ?_) (fun j hj => by omega)
  · refine Ev.succ ?_
    simp only [impl_IsName.l0]
    rw [wrap_id (x := (i : Int) + 1) (by omega) (by omega)]
    refine Ev.pos (by omega) (Ev.pos (by omega) (Ev.pos (by omega) ?_))
    by_cases c1 : bt s (i : Int) < 97
    · exact Ev.pos c1 (Ev.val (by rw [cd_false]; intro h; have := h.1 i hi; omega))
    · refine Ev.neg c1 ?_
      by_cases c2 : bt s (i : Int) > 122
      · exact Ev.pos c2 (Ev.val (by rw [cd_false]; intro h; have := h.1 i hi; omega))
      · refine Ev.neg c2 (ih (fun j hj => ?_))
        by_cases e : j < i
        · exact hp j e
        · obtain rfl : j = i := by omega
          omega
  · refine Ev.succ ?_
    simp only [impl_IsName.l0]
    refine Ev.neg (by omega) ?_
    by_cases c : (s.size : Int) ≥ 1
    · refine Ev.pos c (Ev.val ?_)
      by_cases c2 : (s.size : Int) ≤ 8
      · rw [decide_eq_true c2, cd_true ⟨hp, by omega, by omega⟩]
      · rw [decide_eq_false c2, cd_false (fun h => c2 (by have := h.2.2; omega))]
    · exact Ev.neg c (Ev.val (by rw [cd_false (fun h => c (by have := h.2.1; omega))]))

theorem l00In (a b c : Int) : spec_l00In.f a b c = some (decide (b ≤ a ∧ a ≤ c)) := by
  unfold spec_l00In.f
  by_cases h : a ≥ b
  · rw [if_pos h]; simp; omega
  · rw [if_neg h]; simp; omega

theorem l02Powers (x n : Int) (h0 : 0 ≤ x) (h1 : x ≤ 10) (hn0 : 0 ≤ n) (hn : n ≤ 12) : Ev (fun k => spec_l02Powers.f k x n) (x ^ n.toNat) := by
  unfold spec_l02Powers.f
  obtain ⟨m, rfl⟩ := Int.eq_ofNat_of_zero_le hn0
  have main : ∀ d i : Nat, i + d = m → Ev (fun k => spec_l02Powers.l0 k x (d : Int) (x ^ i)) (x ^ m) := by
    intro d
    induction d with
    | zero =>
      intro i hi
      refine Ev.succ ?_
      simp only [spec_l02Powers.l0]
      exact Ev.neg (by omega) (Ev.val (by rw [show i = m by omega]))
    | succ d ih =>
      intro i hi
      refine Ev.succ ?_
      simp only [spec_l02Powers.l0]
      have hb := pow_bound x (i + 1) h0 h1 (by omega)
      rw [Int.pow_succ] at hb
      refine Ev.pos (by omega) ?_
      rw [wrap_id (x := ((d + 1 : Nat) : Int) - 1) (by omega) (by omega), wrap_id (x := x ^ i * x) (by omega) (by omega), ← Int.pow_succ, show ((d + 1 : Nat) : Int) - 1 = (d : Int) by omega]
      exact ih (i + 1) (by omega)
  have := main m 0 (by omega)
  rw [Int.pow_zero] at this
  exact this

theorem l02Is (s r : Int) (t : List Int) (hl : t.length ≤ 35184372088832) : Ev (fun k => spec_l02Is.f k s r t) (validRule s r t) := by
  unfold spec_l02Is.f validRule
  refine Ev.bnd (l00In s 2 3) ?_
  by_cases hs : 2 ≤ s ∧ s ≤ 3
  · refine Ev.pos (by simpa using hs) (Ev.bnd (l00In r 0 2) ?_)
    by_cases hr : 0 ≤ r ∧ r ≤ 2
    · refine Ev.pos (by simpa using hr) ?_
      rw [wrap_id (x := 2 * r) (by omega) (by omega), wrap_id (x := 2 * r + 1) (by omega) (by omega)]
      refine Ev.bind (l02Powers s (2 * r + 1) (by omega) (by omega) (by omega) (by omega)) (Ev.succ ?_)
      simp only [spec_l02Is.j0]
      by_cases hn : (t.length : Int) = s ^ (2 * r + 1).toNat
      · refine Ev.neg (by simp [hn]) ?_
        rw [decide_eq_true hs, decide_eq_true hr, decide_eq_true hn, Bool.true_and, Bool.true_and, Bool.true_and]
        refine Ev.upto t.length (fun i => ∀ j, (hj : j < t.length) → j < i → 0 ≤ t[j] ∧ t[j] ≤ s - 1) (fun _ => ()) _ (fun k _ i => spec_l02Is.l0 k i s r t) (fun i hi hp ih => ?_) (fun hp => ?_) (fun j hj h => by omega)
        · refine Ev.succ ?_
          simp only [spec_l02Is.l0]
          refine Ev.pos (by omega) (Ev.pos (by omega) ?_)
          rw [rd_lt t i (by omega), wrap_id (x := s - 1) (by omega) (by omega), wrap_id (x := (i : Int) + 1) (by omega) (by omega)]
          refine Ev.bnd (l00In _ _ _) ?_
          by_cases c : 0 ≤ t[i] ∧ t[i] ≤ s - 1
          · exact Ev.pos (by simpa using c) (ih (upTo_succ (p := fun x => 0 ≤ x ∧ x ≤ s - 1) hi hp c))
          · exact Ev.neg (by simpa using c) (Ev.val (by rw [allIn_false i (by omega) c]))
        · refine Ev.succ ?_
          simp only [spec_l02Is.l0]
          exact Ev.neg (by omega) (Ev.val (by rw [allIn_true (fun j hj' => hp j hj' (by omega))]))
      · exact Ev.pos (by simp [hn]) (Ev.val (by simp [hn]))
    · refine Ev.neg (by simpa using hr) (Ev.succ ?_)
      simp only [spec_l02Is.j0]
      exact Ev.pos (by trivial) (Ev.val (by simp [hr]))
  · refine Ev.neg (by simpa using hs) (Ev.succ ?_)
    simp only [spec_l02Is.j0]
    exact Ev.pos (by trivial) (Ev.val (by simp [hs]))

theorem within (a b c : Int) : impl_within.f a b c = some (decide (b ≤ a ∧ a ≤ c)) := by
  unfold impl_within.f
  by_cases h : a ≥ b
  · rw [if_pos h]; simp; omega
  · rw [if_neg h]; simp; omega

theorem areWithin (l : List Int) (a b : Int) (hl : l.length ≤ 35184372088832) : Ev (fun k => impl_areWithin.f k l a b) (allIn l a b) := by
  unfold impl_areWithin.f
  refine Ev.upto l.length (fun i => ∀ j, (hj : j < l.length) → j < i → a ≤ l[j] ∧ l[j] ≤ b) (fun _ => ()) _ (fun k _ i => impl_areWithin.l0 k a b l l.length i) (fun i hi hp ih => ?_) (fun hp => ?_) (fun j hj h => by omega)
  · refine Ev.succ ?_
    simp only [impl_areWithin.l0]
    refine Ev.pos (by omega) (Ev.pos (by omega) (Ev.pos (by omega) ?_))
    rw [rd_lt l i (by omega), wrap_id (by omega) (by omega), within]
    by_cases c : a ≤ l[i] ∧ l[i] ≤ b
    · exact Ev.bnd rfl (Ev.pos (by simpa using c) (ih (upTo_succ (p := fun x => a ≤ x ∧ x ≤ b) hi hp c)))
    · exact Ev.bnd rfl (Ev.neg (by simpa using c) (Ev.val (by rw [allIn_false i (by omega) c])))
  · refine Ev.succ ?_
    simp only [impl_areWithin.l0]
    exact Ev.neg (by omega) (Ev.val (by rw [allIn_true (fun j hj' => hp j hj' (by omega))]))

theorem areMany (l : List Int) (a b c d : Int) (hl : l.length ≤ 35184372088832) : Ev (fun k => impl_areMany.f k l a b c d) (decide (a ≤ l.length ∧ l.length ≤ b) && allIn l c d) := by
  unfold impl_areMany.f
  refine Ev.bnd (within _ _ _) ?_
  by_cases h : a ≤ l.length ∧ l.length ≤ b
  · refine Ev.pos (by simpa using h) (Ev.cast (Ev.bind (areWithin l c d hl) (Ev.now _)) (by simp [h]))
  · exact Ev.neg (by simpa using h) (Ev.val (by simp [h]))

theorem areStates (s : Int) : impl_areStates.f s = some (decide (s = 2 ∨ s = 3)) := by
  unfold impl_areStates.f
  by_cases h : s = 2
  · rw [if_pos h]; simp [h]
  · rw [if_neg h]
    by_cases h3 : s = 3
    · subst h3; rfl
    · simp [h, h3]

theorem raised (x n : Int) (h0 : 0 ≤ x) (h1 : x ≤ 10) (hn0 : 0 ≤ n) (hn : n ≤ 12) : Ev (fun k => impl_raised.f k x n) (x ^ n.toNat) := by
  unfold impl_raised.f
  obtain ⟨m, rfl⟩ := Int.eq_ofNat_of_zero_le hn0
  rw [Int.toNat_natCast]
  refine Ev.congr (fun k => ?_) (Ev.upto m (fun _ => True) (fun i => x ^ i) (x ^ m) (fun k s i => impl_raised.l0 k x s m i) (fun i hi _ ih => ?_) (fun _ => ?_) trivial)
  · rw [Int.pow_zero]
  · refine Ev.succ ?_
    simp only [impl_raised.l0]
    have hb := pow_bound x (i + 1) h0 h1 (by omega)
    rw [Int.pow_succ] at hb
    refine Ev.pos (by omega) ?_
    rw [wrap_id (x := (i : Int) + 1) (by omega) (by omega), wrap_id (x := x ^ i * x) (by omega) (by omega), ← Int.pow_succ]
    exact ih trivial
  · refine Ev.succ ?_
    simp only [impl_raised.l0]
    exact Ev.neg (by omega) (Ev.now _)

theorem isReach (r : Int) : impl_isReach.f r = some (decide (0 ≤ r ∧ r ≤ 2)) := by
  unfold impl_isReach.f
  rw [within]; rfl
theorem ruleCells (s r : Int) (t : List Int) (h0 : 0 ≤ r) (h1 : r ≤ 2) : impl_Rule_cells.f s r t = some (2 * r + 1) := by
  unfold impl_Rule_cells.f
  rw [wrap_id (x := 2 * r) (by omega) (by omega), wrap_id (x := 2 * r + 1) (by omega) (by omega)]
theorem ValidRule (s r : Int) (t : List Int) (hl : t.length ≤ 35184372088832) : Ev (fun k => impl_ValidRule.f k s r t) (validRule s r t) := by
  unfold impl_ValidRule.f validRule
  refine Ev.bnd (areStates s) ?_
  by_cases hs : 2 ≤ s ∧ s ≤ 3
  · refine Ev.pos (by simp; omega) (Ev.bnd (isReach r) (Ev.succ ?_))
    simp only [impl_ValidRule.j0]
    by_cases hr : 0 ≤ r ∧ r ≤ 2
    · refine Ev.neg (by simpa using hr) (Ev.bnd (ruleCells s r t hr.1 hr.2) (Ev.bind (raised s (2 * r + 1) (by omega) (by omega) (by omega) (by omega)) ?_))
      rw [wrap_id (x := s - 1) (by omega) (by omega)]
      refine Ev.cast (Ev.bind (areMany t _ _ 0 (s - 1) hl) (Ev.now _)) ?_
      rw [decide_eq_true hs, decide_eq_true hr, Bool.true_and, Bool.true_and]
      congr 1
      exact decide_eq_decide.mpr (by omega)
    · exact Ev.pos (by simp; omega) (Ev.val (by simp [hr]))
  · refine Ev.neg (by simp; omega) (Ev.succ ?_)
    simp only [impl_ValidRule.j0]
    exact Ev.pos (by trivial) (Ev.val (by simp [hs]))

theorem l04Is (r c : Int) (l : List Int) (hl : l.length ≤ 35184372088832) : Ev (fun k => spec_l04Is.f k r c l) (validField r c l) := by
  unfold spec_l04Is.f validField
  refine Ev.bnd (l00In r 1 24) ?_
  by_cases hr : 1 ≤ r ∧ r ≤ 24
  · refine Ev.pos (by simpa using hr) (Ev.bnd (l00In c 1 24) ?_)
    by_cases hc : 1 ≤ c ∧ c ≤ 24
    · have hm1 : 0 ≤ r * c := Int.mul_nonneg (by omega) (by omega)
      have hm2 : r * c ≤ 24 * c := Int.mul_le_mul_of_nonneg_right hr.2 (by omega)
      rw [wrap_id (x := r * c) (by omega) (by omega)]
      refine Ev.pos (by simpa using hc) (Ev.succ ?_)
      simp only [spec_l04Is.j0]
      by_cases hn : (l.length : Int) = r * c
      · refine Ev.neg (by simp [hn]) ?_
        rw [decide_eq_true hr, decide_eq_true hc, decide_eq_true hn, Bool.true_and, Bool.true_and, Bool.true_and]
        refine Ev.upto l.length (fun i => ∀ j, (hj : j < l.length) → j < i → 0 ≤ l[j] ∧ l[j] ≤ 9) (fun _ => ()) _ (fun k _ i => spec_l04Is.l0 k i r c l) (fun i hi hp ih => ?_) (fun hp => ?_) (fun j hj h => by omega)
        · refine Ev.succ ?_
          simp only [spec_l04Is.l0]
          refine Ev.pos (by omega) (Ev.pos (by omega) ?_)
          rw [rd_lt l i (by omega), wrap_id (x := (i : Int) + 1) (by omega) (by omega)]
          refine Ev.bnd (l00In _ _ _) ?_
          by_cases c : 0 ≤ l[i] ∧ l[i] ≤ 9
          · exact Ev.pos (by simpa using c) (ih (upTo_succ (p := fun x => 0 ≤ x ∧ x ≤ 9) hi hp c))
          · exact Ev.neg (by simpa using c) (Ev.val (by rw [allIn_false i (by omega) c]))
        · refine Ev.succ ?_
          simp only [spec_l04Is.l0]
          exact Ev.neg (by omega) (Ev.val (by rw [allIn_true (fun j hj' => hp j hj' (by omega))]))
      · exact Ev.pos (by simp [hn]) (Ev.val (by simp [hn]))
    · refine Ev.neg (by simpa using hc) (Ev.succ ?_)
      simp only [spec_l04Is.j0]
      exact Ev.pos (by trivial) (Ev.val (by simp [hc]))
  · refine Ev.neg (by simpa using hr) (Ev.succ ?_)
    simp only [spec_l04Is.j0]
    exact Ev.pos (by trivial) (Ev.val (by simp [hr]))

theorem isSide (r : Int) : impl_isSide.f r = some (decide (1 ≤ r ∧ r ≤ 24)) := by
  unfold impl_isSide.f
  rw [within]; rfl
theorem ValidField (r c : Int) (l : List Int) (hl : l.length ≤ 35184372088832) : Ev (fun k => impl_ValidField.f k r c l) (validField r c l) := by
  unfold impl_ValidField.f validField
  refine Ev.cast (Ev.andB (isSide r) (fun hr => Ev.andB (isSide c) (fun hc => ?_))) (by rw [← Bool.and_assoc, ← Bool.and_assoc])
  rw [decide_eq_true_eq] at hr hc
  have hm1 : 0 ≤ r * c := Int.mul_nonneg (by omega) (by omega)
  have hm2 : r * c ≤ 24 * c := Int.mul_le_mul_of_nonneg_right hr.2 (by omega)
  rw [wrap_id (x := r * c) (by omega) (by omega)]
  refine Ev.cast (Ev.ret (areMany l _ _ 0 9 hl)) ?_
  congr 1
  exact decide_eq_decide.mpr (by omega)

/-- What is saved is valid. -/
noncomputable def savedOk (nm : ByteArray) (s r : Int) (t : List Int) (p q : Int) (l : List Int) : Bool := cd (nameOk nm) && (validRule s r t && validField p q l)
theorem savedSpec (nm : ByteArray) (s r : Int) (t : List Int) (p q : Int) (l : List Int) (hn : nm.size ≤ 140737488351232) (ht : t.length ≤ 35184372088832) (hl : l.length ≤ 35184372088832) : Ev (fun k => spec_l07Saved.f k nm s r t p q l) (savedOk nm s r t p q l) := by
  unfold spec_l07Saved.f savedOk
  exact Ev.and (nameSpec nm hn) (fun _ => Ev.and (l02Is s r t ht) (fun _ => Ev.ret (l04Is p q l hl)))
theorem savedImpl (nm : ByteArray) (s r : Int) (t : List Int) (p q : Int) (l : List Int) (hn : nm.size ≤ 140737488351232) (ht : t.length ≤ 35184372088832) (hl : l.length ≤ 35184372088832) : Ev (fun k => impl_ValidSaved.f k nm s r t p q l) (savedOk nm s r t p q l) := by
  unfold impl_ValidSaved.f savedOk
  exact Ev.and (nameImpl nm hn) (fun _ => Ev.and (ValidRule s r t ht) (fun _ => Ev.ret (ValidField p q l hl)))

theorem strOf_append (xs ys : List Int) : strOfNums (xs ++ ys) = strOfNums xs ++ strOfNums ys := by
  unfold strOfNums
  apply ByteArray.ext
  rw [ByteArray.data_append]
  simp
theorem strOf_bytesOf (s : ByteArray) : strOfNums (bytesOf s) = s := by
  have e : ((fun n : Int => UInt8.ofNat n.toNat) ∘ fun b : UInt8 => (b.toNat : Int)) = id := by
    funext b
    simp
  unfold strOfNums bytesOf
  apply ByteArray.ext
  show (List.map _ (List.map _ _)).toArray = s.data
  rw [List.map_map, e, List.map_id]
/-- Numbers as bytes. -/
def byL (l : List Int) : List Int := l.map (· % 256)
theorem byL_length (l : List Int) : (byL l).length = l.length := by simp [byL]
/-- What is stored, as numbers, but for the check. -/
def storeL (nm : ByteArray) (s r : Int) (t : List Int) (p q : Int) (l : List Int) : List Int := [67, 69, 76, 49] ++ [(nm.size : Int) % 256] ++ bytesOf nm ++ [s % 256, r % 256] ++ byL t ++ [p % 256, q % 256] ++ byL l
/-- The check number behind n bytes. -/
def chk (s : ByteArray) : Nat → Int
  | 0 => 0
  | n + 1 => Int.tmod (wrap64 ((wrap64 ((wrap64 (947 * chk s n)) + (wrap64 (bt s (n : Int))))) + 211)) 65003
def tailL (c : Int) : List Int := [(Int.tmod c 256) % 256, (wrap64 (Int.tdiv c 256)) % 256]
/-- What is stored. -/
def storeB (nm : ByteArray) (s r : Int) (t : List Int) (p q : Int) (l : List Int) : ByteArray := strOfNums (storeL nm s r t p q l ++ tailL (chk (strOfNums (storeL nm s r t p q l)) (strOfNums (storeL nm s r t p q l)).size))
theorem storeB_size (nm : ByteArray) (s r : Int) (t : List Int) (p q : Int) (l : List Int) : (storeB nm s r t p q l).size = nm.size + t.length + l.length + 11 := by
  unfold storeB
  rw [str_size]
  simp [storeL, tailL, byL, bytesOf_length]
  omega
theorem checkSpec (s : ByteArray) (h : s.size ≤ 1000000000000) : Ev (fun k => spec_l01Check.f k 0 s) (chk s s.size) := by
  unfold spec_l01Check.f
  refine Ev.upto s.size (fun _ => True) (fun i => chk s i) _ (fun k c i => spec_l01Check.l0 k c s i) (fun i hi _ ih => ?_) (fun _ => ?_) trivial
  · refine Ev.succ ?_
    simp only [spec_l01Check.l0]
    rw [wrap_id (x := (i : Int) + 1) (by omega) (by omega)]
    exact Ev.pos (by omega) (Ev.pos (by omega) (ih trivial))
  · refine Ev.succ ?_
    simp only [spec_l01Check.l0]
    exact Ev.neg (by omega) (Ev.now _)
theorem checkImpl (s : ByteArray) (h : s.size ≤ 1000000000000) : Ev (fun k => impl_CheckOf.f k 0 s) (chk s s.size, true) := by
  unfold impl_CheckOf.f
  refine Ev.bnd (within _ _ _) (Ev.pos (by simp) ?_)
  refine Ev.upto s.size (fun _ => True) (fun i => chk s i) _ (fun k c i => impl_CheckOf.l0 k c s s.size i) (fun i hi _ ih => ?_) (fun _ => ?_) trivial
  · refine Ev.succ ?_
    simp only [impl_CheckOf.l0]
    rw [wrap_id (x := (i : Int) + 1) (by omega) (by omega)]
    exact Ev.pos (by omega) (Ev.pos (by omega) (Ev.pos (by omega) (ih trivial)))
  · refine Ev.succ ?_
    simp only [impl_CheckOf.l0]
    exact Ev.neg (by omega) (Ev.now _)
theorem keyOf (l : List Int) (h : l.length ≤ 1000000000000) : Ev (fun k => impl_keyOf.f k l) (strOfNums (byL l)) := by
  unfold impl_keyOf.f
  rw [Int.toNat_natCast]
  refine Ev.pos (by omega) (Ev.pos (by omega) ?_)
  refine Ev.congr (fun k => ?_) (Ev.upto l.length (fun _ => True) (fun i => (byL l).take i ++ (List.replicate l.length (0 : Int)).drop i) (strOfNums (byL l)) (fun k s i => impl_keyOf.l0 k s l l.length i) (fun i hi _ ih => ?_) (fun _ => ?_) trivial)
  · simp
  · refine Ev.succ ?_
    simp only [impl_keyOf.l0]
    have h1 := take_drop_set (byL l) (List.replicate l.length (0 : Int)) i (by rw [byL_length]; exact hi) (by rw [byL_length]; simp)
    have ih' := ih trivial
    rw [← h1] at ih'
    rw [rd_lt l i hi, wrap_id (x := (i : Int) + 1) (by omega) (by omega), Int.toNat_natCast]
    have e : (byL l)[i]'(by rw [byL_length]; exact hi) = l[i] % 256 := by simp [byL]
    rw [e] at ih'
    exact Ev.pos (by omega) (Ev.pos (by omega) (Ev.pos (by omega) (Ev.pos (by simp [byL_length]; omega) ih')))
  · refine Ev.succ ?_
    simp only [impl_keyOf.l0]
    rw [List.drop_of_length_le (by simp), List.append_nil, List.take_of_length_le (by simp [byL_length])]
    exact Ev.neg (by omega) (Ev.now _)
theorem byL_take_succ (l : List Int) (i : Nat) (h : i < l.length) : byL (l.take (i + 1)) = byL (l.take i) ++ [l[i] % 256] := by
  unfold byL
  rw [List.take_succ_eq_append_getElem h, List.map_append]; rfl
theorem storeSpec (nm : ByteArray) (s r : Int) (t : List Int) (p q : Int) (l : List Int) (hn : nm.size ≤ 1000) (ht : t.length ≤ 1000000) (hl : l.length ≤ 1000000) : Ev (fun k => spec_l07Store.f k nm s r t p q l) (storeB nm s r t p q l) := by
  unfold spec_l07Store.f
  simp only [Option.bind_some]
  have hb := bytesOf_length nm
  refine Ev.pos (by simp) (Ev.pos (by omega) (Ev.pos (by simp; omega) (Ev.pos (by simp; omega) ?_)))
  have hA : ([67, 69, 76, 49] ++ [(nm.size : Int) % 256] ++ bytesOf nm ++ [s % 256, r % 256]).length = nm.size + 7 := by simp [hb]
  generalize hAA : [67, 69, 76, 49] ++ [(nm.size : Int) % 256] ++ bytesOf nm ++ [s % 256, r % 256] = A at hA
  refine Ev.congr (fun k => ?_) (Ev.upto t.length (fun _ => True) (fun i => A ++ byL (t.take i)) (storeB nm s r t p q l) (fun k x i => spec_l07Store.l0 k x t.length i nm s r t p q l) (fun i hi _ ih => ?_) (fun _ => ?_) trivial)
  · simp [byL]
  · refine Ev.succ ?_
    simp only [spec_l07Store.l0]
    have ih' := ih trivial
    rw [byL_take_succ t i hi, ← List.append_assoc] at ih'
    rw [rd_lt t i hi, wrap_id (x := (i : Int) + 1) (by omega) (by omega)]
    exact Ev.pos (by omega) (Ev.pos (by omega) (Ev.pos (by omega) (Ev.pos (by rw [List.length_append, byL_length, List.length_take]; omega) ih')))
  · refine Ev.succ ?_
    simp only [spec_l07Store.l0, Option.bind_some]
    rw [List.take_length]
    refine Ev.neg (by omega) (Ev.pos (by simp [byL_length]; omega) ?_)
    have hB : (A ++ byL t ++ [p % 256, q % 256]).length = nm.size + t.length + 9 := by simp [byL_length, hA]; omega
    generalize hBB : A ++ byL t ++ [p % 256, q % 256] = B at hB
    refine Ev.congr (fun k => ?_) (Ev.upto l.length (fun _ => True) (fun i => B ++ byL (l.take i)) (storeB nm s r t p q l) (fun k x i => spec_l07Store.l1 k x l.length i nm s r t p q l) (fun i hi _ ih => ?_) (fun _ => ?_) trivial)
    · simp [byL]
    · refine Ev.succ ?_
      simp only [spec_l07Store.l1]
      have ih' := ih trivial
      rw [byL_take_succ l i hi, ← List.append_assoc] at ih'
      rw [rd_lt l i hi, wrap_id (x := (i : Int) + 1) (by omega) (by omega)]
      exact Ev.pos (by omega) (Ev.pos (by omega) (Ev.pos (by omega) (Ev.pos (by rw [List.length_append, byL_length, List.length_take]; omega) ih')))
    · refine Ev.succ ?_
      simp only [spec_l07Store.l1, Option.bind_some]
      rw [List.take_length]
      have hC : B ++ byL l = storeL nm s r t p q l := by unfold storeL; rw [hAA, hBB]
      have hCl : (B ++ byL l).length = nm.size + t.length + l.length + 9 := by rw [List.length_append, byL_length, hB]; omega
      rw [hC] at hCl
      rw [hC]
      refine Ev.neg (by omega) (Ev.bind (checkSpec _ (by rw [str_size, hCl]; omega)) (Ev.pos (by rw [hCl]; simp; omega) (Ev.now _)))
theorem storeStr (nm : ByteArray) (s r : Int) (t : List Int) (p q : Int) (l : List Int) : ((((⟨#[67, 69, 76, 49]⟩ : ByteArray) ++ strOfNums [(nm.size : Int) % 256]) ++ nm) ++ (strOfNums (byL [s, r]) ++ strOfNums (byL t))) ++ (strOfNums (byL [p, q]) ++ strOfNums (byL l)) = strOfNums (storeL nm s r t p q l) := by
  unfold storeL
  have e : strOfNums [67, 69, 76, 49] = (⟨#[67, 69, 76, 49]⟩ : ByteArray) := by rfl
  simp only [strOf_append, strOf_bytesOf, e, ByteArray.append_assoc]
  rfl
theorem storeImpl (nm : ByteArray) (s r : Int) (t : List Int) (p q : Int) (l : List Int) (hn : nm.size ≤ 1000) (ht : t.length ≤ 1000000) (hl : l.length ≤ 1000000) (hv : Ev (fun k => impl_ValidSaved.f k nm s r t p q l) true) : Ev (fun k => impl_StoreSaved.f k nm s r t p q l) (storeB nm s r t p q l, true) := by
  unfold impl_StoreSaved.f
  refine Ev.bind hv (Ev.pos rfl ?_)
  simp only [Option.bind_some]
  have k1 := keyOf [s, r] (by simp)
  have k2 := keyOf t (by omega)
  have k3 := keyOf [p, q] (by simp)
  have k4 := keyOf l (by omega)
  have z1 : (strOfNums (byL [s, r])).size = 2 := by rw [str_size, byL_length]; rfl
  have z2 : (strOfNums (byL t)).size = t.length := by rw [str_size, byL_length]
  have z3 : (strOfNums (byL [p, q])).size = 2 := by rw [str_size, byL_length]; rfl
  have z4 : (strOfNums (byL l)).size = l.length := by rw [str_size, byL_length]
  have z0 : (strOfNums [(nm.size : Int) % 256]).size = 1 := by rw [str_size]; rfl
  have zs : (strOfNums (storeL nm s r t p q l)).size = nm.size + t.length + l.length + 9 := by
    rw [str_size]
    simp [storeL, byL, bytesOf_length]
    omega
  have k5 := keyOf [Int.tmod (chk (strOfNums (storeL nm s r t p q l)) (strOfNums (storeL nm s r t p q l)).size) 256, wrap64 (Int.tdiv (chk (strOfNums (storeL nm s r t p q l)) (strOfNums (storeL nm s r t p q l)).size) 256)] (by simp)
  have z5 : (strOfNums (byL [Int.tmod (chk (strOfNums (storeL nm s r t p q l)) (strOfNums (storeL nm s r t p q l)).size) 256, wrap64 (Int.tdiv (chk (strOfNums (storeL nm s r t p q l)) (strOfNums (storeL nm s r t p q l)).size) 256)])).size = 2 := by rw [str_size, byL_length]; rfl
  refine Ev.pos (by omega) (Ev.pos (by omega) (Ev.bind k1 (Ev.bind k2 (Ev.pos (by omega) (Ev.pos (by omega) (Ev.bind k3 (Ev.bind k4 (Ev.pos (by omega) (Ev.pos (by omega) ?_)))))))))
  rw [storeStr]
  refine Ev.bind (checkImpl _ (by omega)) (Ev.bind k5 (Ev.pos (by omega) (Ev.val ?_)))
  unfold storeB
  rw [strOf_append]
  rfl

theorem saved_len {nm : ByteArray} {s r : Int} {t : List Int} {p q : Int} {l : List Int} (h : savedOk nm s r t p q l = true) : nm.size ≤ 1000 ∧ t.length ≤ 1000000 ∧ l.length ≤ 1000000 := by
  unfold savedOk at h
  simp only [Bool.and_eq_true] at h
  obtain ⟨h1, h2, h3⟩ := h
  have h1' := (cd_iff.1 h1).2.2
  refine ⟨by omega, ?_, ?_⟩
  · unfold validRule at h2
    simp only [Bool.and_eq_true, decide_eq_true_eq] at h2
    obtain ⟨⟨⟨hs, hr⟩, hn⟩, _⟩ := h2
    have : r = 0 ∨ r = 1 ∨ r = 2 := by omega
    have : s = 2 ∨ s = 3 := by omega
    rcases ‹r = 0 ∨ r = 1 ∨ r = 2› with rfl | rfl | rfl <;> rcases ‹s = 2 ∨ s = 3› with rfl | rfl <;> simp at hn <;> omega
  · unfold validField at h3
    simp only [Bool.and_eq_true, decide_eq_true_eq] at h3
    obtain ⟨⟨⟨hp, hq⟩, hn⟩, _⟩ := h3
    have h4 : p * q ≤ 24 * 24 := Int.mul_le_mul hp.2 hq.2 (by omega) (by omega)
    omega
/-- What StoreSaved answers. -/
noncomputable def storeSaved (nm : ByteArray) (s r : Int) (t : List Int) (p q : Int) (l : List Int) : ByteArray × Bool := if savedOk nm s r t p q l = true then (storeB nm s r t p q l, true) else (⟨#[]⟩, false)
theorem storeSavedImpl (nm : ByteArray) (s r : Int) (t : List Int) (p q : Int) (l : List Int) (hn : nm.size ≤ 140737488351232) (ht : t.length ≤ 35184372088832) (hl : l.length ≤ 35184372088832) : Ev (fun k => impl_StoreSaved.f k nm s r t p q l) (storeSaved nm s r t p q l) := by
  unfold storeSaved
  by_cases g : savedOk nm s r t p q l = true
  · have hs := saved_len g
    rw [if_pos g]
    exact storeImpl nm s r t p q l hs.1 hs.2.1 hs.2.2 (Ev.cast (savedImpl nm s r t p q l hn ht hl) g)
  · rw [if_neg g]
    unfold impl_StoreSaved.f
    exact Ev.bind (savedImpl nm s r t p q l hn ht hl) (Ev.neg g (Ev.now _))

/-- What StoreAll answers, behind some. -/
noncomputable def storeFrom : List S68 → ByteArray → ByteArray × Bool
  | [], b => (b, true)
  | x :: l, b => if savedOk x.f0 x.f1.f0 x.f1.f1 x.f1.f2 x.f2.f0 x.f2.f1 x.f2.f2 = true then storeFrom l (b ++ storeB x.f0 x.f1.f0 x.f1.f1 x.f1.f2 x.f2.f0 x.f2.f1 x.f2.f2) else (⟨#[]⟩, false)
noncomputable def storeAll (l : List S68) : ByteArray × Bool := if l.length ≤ 8 then storeFrom l ⟨#[]⟩ else (⟨#[]⟩, false)
theorem storeAllSpec (l : List S68) (hl : l.length ≤ 2932031007402) (hs : SmallI l) : Ev (fun k => spec_StoreAll.f k l) (storeAll l) := by
  unfold spec_StoreAll.f storeAll
  by_cases c : l.length ≤ 8
  · rw [if_pos c]
    refine Ev.neg (by omega) ?_
    have main : ∀ d i : Nat, i + d = l.length → ∀ b : ByteArray, b.size ≤ i * 3000000 → Ev (fun k => spec_StoreAll.l0 k l b l.length (i : Int)) (storeFrom (l.drop i) b) := by
      intro d
      induction d with
      | zero =>
        intro i hi b hb
        refine Ev.succ ?_
        simp only [spec_StoreAll.l0]
        rw [List.drop_of_length_le (by omega)]
        exact Ev.neg (by omega) (Ev.now _)
      | succ d ih =>
        intro i hi b hb
        have hil : i < l.length := by omega
        have hx := hs l[i] (List.getElem_mem hil)
        refine Ev.succ ?_
        simp only [spec_StoreAll.l0]
        rw [rdI l i hil, wrap_id (x := (i : Int) + 1) (by omega) (by omega), List.drop_eq_getElem_cons hil]
        simp only [storeFrom]
        refine Ev.pos (by omega) (Ev.pos (by omega) (Ev.pos (by omega) (Ev.bind (savedSpec _ _ _ _ _ _ _ hx.1 (by omega) (by omega)) ?_)))
        by_cases g : savedOk l[i].f0 l[i].f1.f0 l[i].f1.f1 l[i].f1.f2 l[i].f2.f0 l[i].f2.f1 l[i].f2.f2 = true
        · have hz := saved_len g
          have hsz := storeB_size l[i].f0 l[i].f1.f0 l[i].f1.f1 l[i].f1.f2 l[i].f2.f0 l[i].f2.f1 l[i].f2.f2
          rw [if_pos g]
          exact Ev.pos g (Ev.bind (storeSpec _ _ _ _ _ _ _ hz.1 hz.2.1 hz.2.2) (Ev.pos (by omega) (ih (i + 1) (by omega) _ (by rw [ByteArray.size_append]; omega))))
        · rw [if_neg g]
          exact Ev.neg g (Ev.now _)
    exact main l.length 0 (by omega) _ (by simp [ByteArray.size])
  · rw [if_neg c]
    exact Ev.pos (by omega) (Ev.now _)
theorem storeAllImpl (l : List S68) (hl : l.length ≤ 2932031007402) (hs : SmallI l) : Ev (fun k => impl_StoreAll.f k l) (storeAll l) := by
  unfold impl_StoreAll.f storeAll
  by_cases c : l.length ≤ 8
  · rw [if_pos c]
    refine Ev.neg (by omega) ?_
    have main : ∀ d i : Nat, i + d = l.length → ∀ b : ByteArray, b.size ≤ i * 3000000 → Ev (fun k => impl_StoreAll.l0 k b l l.length (i : Int)) (storeFrom (l.drop i) b) := by
      intro d
      induction d with
      | zero =>
        intro i hi b hb
        refine Ev.succ ?_
        simp only [impl_StoreAll.l0]
        rw [List.drop_of_length_le (by omega)]
        exact Ev.neg (by omega) (Ev.now _)
      | succ d ih =>
        intro i hi b hb
        have hil : i < l.length := by omega
        have hx := hs l[i] (List.getElem_mem hil)
        refine Ev.succ ?_
        simp only [impl_StoreAll.l0]
        rw [rdI l i hil, wrap_id (x := (i : Int) + 1) (by omega) (by omega), List.drop_eq_getElem_cons hil]
        simp only [storeFrom]
        refine Ev.pos (by omega) (Ev.pos (by omega) (Ev.pos (by omega) (Ev.bind (storeSavedImpl _ _ _ _ _ _ _ hx.1 (by omega) (by omega)) ?_)))
        unfold storeSaved
        by_cases g : savedOk l[i].f0 l[i].f1.f0 l[i].f1.f1 l[i].f1.f2 l[i].f2.f0 l[i].f2.f1 l[i].f2.f2 = true
        · have hz := saved_len g
          have hsz := storeB_size l[i].f0 l[i].f1.f0 l[i].f1.f1 l[i].f1.f2 l[i].f2.f0 l[i].f2.f1 l[i].f2.f2
          rw [if_pos g, if_pos g]
          exact Ev.pos rfl (Ev.pos (by dsimp only; omega) (ih (i + 1) (by omega) _ (by rw [ByteArray.size_append]; dsimp only; omega)))
        · rw [if_neg g, if_neg g]
          exact Ev.neg (by simp) (Ev.now _)
    exact main l.length 0 (by omega) _ (by simp [ByteArray.size])
  · rw [if_neg c]
    exact Ev.pos (by omega) (Ev.now _)
theorem FnExactStoreAll : laws_FnExactStoreAll.Pure := by
  intro l hl
  have sl : SmallL l := fun x hx => by have := hl.1 x hx; omega
  have ll : l.length ≤ 2932031007402 := by omega
  refine Ev.rounds ?_
  unfold laws_FnExactStoreAll.f
  obtain ⟨n, hn1, hn2⟩ := szSavedS l 1048576 (by omega) (by omega) ll sl
  refine Ev.bind hn1 ?_
  by_cases c : n < 0
  · exact Ev.pos c (Ev.now _)
  · have tl := toSavedS l ll sl
    have l1 : (l.map convS).length ≤ 2932031007402 := by simpa using ll
    refine Ev.neg c (Ev.bind tl (Ev.bind (storeAllSpec _ l1 sl.conv) (Ev.bind tl (Ev.bind (storeAllImpl _ l1 sl.conv) (Ev.pos rfl (Ev.succ ?_))))))
    simp only [laws_FnExactStoreAll.j0]
    exact Ev.neg (by simp) (Ev.bind tl (Ev.bind (eqSavedS _ l1 sl.conv) (Ev.pos rfl (Ev.now _))))

end Go.Proofs.Ytjhodohmifemiaa.Pure

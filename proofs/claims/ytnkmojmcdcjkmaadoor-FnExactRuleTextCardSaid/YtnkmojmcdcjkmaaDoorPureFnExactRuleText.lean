/- RuleText of the program and of the reference answer the same for every rule. -/
import Derived.Test.YtnkmojmcdcjkmaaDoorPFnExactRuleTextx0
import Derived.Test.YtnkmojmcdcjkmaaDoorPFnExactRuleTextx1
import Derived.Test.YtnkmojmcdcjkmaaDoorPFnExactRuleTextx2
import Derived.Test.YtnkmojmcdcjkmaaDoorLib
namespace Go.Proofs.YtnkmojmcdcjkmaaDoor.Pure
open Go.RowKit Go.Proofs.YtnkmojmcdcjkmaaDoor.PFnExactRuleText Go.Proofs.YtnkmojmcdcjkmaaDoorW.PrintWords Go.Proofs.YtnkmojmcdcjkmaaDoorW.PrintLast Go.Proofs.YtnkmojmcdcjkmaaDoor.L
set_option linter.unusedVariables false
set_option linter.unusedSimpArgs false

theorem toInt64S (l : List Int) (hl : l.length ≤ 35184372088832) : Ev (fun k => laws_toInt64S.f k l) l := by
  unfold laws_toInt64S.f
  refine Ev.pos (by omega) (Ev.pos (by omega) ?_)
  refine Ev.cast (Ev.upto l.length (fun _ => True) (fun i => l.take i ++ List.replicate (l.length - i) 0) l (fun k s i => laws_toInt64S.l0 k l s i) (fun i hi _ ih => ?_) (fun _ => ?_) trivial) rfl
  · refine Ev.succ ?_
    simp only [laws_toInt64S.l0]
    refine Ev.pos (by omega) (Ev.pos (by omega) (Ev.pos (by simp; omega) ?_))
    rw [wrap_id (by omega) (by omega), Int.toNat_natCast, rd_lt l i hi, take_set_rep l i hi]
    exact ih trivial
  · refine Ev.succ ?_
    simp only [laws_toInt64S.l0]
    exact Ev.neg (by omega) (Ev.val (by simp))

theorem toRule (s r : Int) (t : List Int) (hl : t.length ≤ 35184372088832) : Ev (fun k => laws_toRule.f k s r t) (s, r, t) := by
  unfold laws_toRule.f
  exact Ev.bind (toInt64S t hl) (Ev.now _)

theorem eqInt64S (l m : List Int) (hl : l.length ≤ 35184372088832) : Ev (fun k => laws_eqInt64S.f k l m) (decide (l = m)) := by
  unfold laws_eqInt64S.f
  by_cases h : l.length = m.length
  · refine Ev.pos (by omega) ?_
    refine Ev.upto l.length (fun i => ∀ j, j < i → l[j]? = m[j]?) (fun _ => ()) _ (fun k _ i => laws_eqInt64S.l0 k l m i) (fun i hi hp ih => ?_) (fun hp => ?_) (fun j hj => by omega)
    · refine Ev.succ ?_
      simp only [laws_eqInt64S.l0]
      refine Ev.pos (by omega) (Ev.pos (by omega) (Ev.pos (by omega) ?_))
      rw [rd_lt l i (by omega), rd_lt m i (by omega)]
      by_cases e : l[i] = m[i]
      · refine Ev.pos e ?_
        rw [wrap_id (by omega) (by omega)]
        exact ih (fun j hj' => by
          by_cases hji : j < i
          · exact hp j hji
          · obtain rfl : j = i := by omega
            rw [List.getElem?_eq_getElem (by omega), List.getElem?_eq_getElem (by omega), e])
      · refine Ev.neg e (Ev.val ?_)
        rw [eq_comm, Option.some.injEq, decide_eq_false_iff_not]
        rintro rfl
        exact e rfl
    · refine Ev.succ ?_
      simp only [laws_eqInt64S.l0]
      refine Ev.neg (by omega) (Ev.val ?_)
      have : l = m := List.ext_getElem? (fun j => by
        by_cases hjl : j < l.length
        · exact hp j (by omega)
        · rw [List.getElem?_eq_none (by omega), List.getElem?_eq_none (by omega)])
      simp [this]
  · refine Ev.neg (by omega) (Ev.val ?_)
    rw [eq_comm, Option.some.injEq, decide_eq_false_iff_not]
    rintro rfl
    exact h rfl

theorem eqRule (s r : Int) (t : List Int) (s' r' : Int) (t' : List Int) (hl : t.length ≤ 35184372088832) : Ev (fun k => laws_eqRule.f k s r t s' r' t') (decide (s = s' ∧ r = r' ∧ t = t')) := by
  unfold laws_eqRule.f
  by_cases h1 : s = s'
  · refine Ev.pos h1 ?_
    by_cases h2 : r = r'
    · refine Ev.pos h2 (Ev.bind (eqInt64S t t' hl) ?_)
      by_cases h3 : t = t'
      · exact Ev.pos (by simpa using h3) (Ev.val (by simp [h1, h2, h3]))
      · exact Ev.neg (by simpa using h3) (Ev.val (by simp [h3]))
    · exact Ev.neg h2 (Ev.val (by simp [h2]))
  · exact Ev.neg h1 (Ev.val (by simp [h1]))

theorem szInt64S (l : List Int) (a : Int) (hl : l.length ≤ 35184372088832) (h0 : -1000000000000 ≤ a) (h1 : a ≤ 1000000000000) : laws_szInt64S.f l a = some (if a - l.length < 0 then -1 else a - l.length) := by
  unfold laws_szInt64S.f
  rw [wrap_id (x := a - l.length) (by omega) (by omega)]
  split <;> rfl

theorem szRule (s r : Int) (t : List Int) (a : Int) (hl : t.length ≤ 35184372088832) (h0 : 0 ≤ a) (h1 : a ≤ 1000000000) : laws_szRule.f s r t a = some (if a - t.length < 0 then -1 else a - t.length) := by
  unfold laws_szRule.f
  rw [szInt64S t a hl (by omega) (by omega)]
  by_cases c : a - (t.length : Int) < 0
  · rw [if_pos c]; rfl
  · rw [if_neg c]
    show (if _ then _ else _) = _
    rw [if_neg c]

theorem l00In (a b c : Int) : spec_l00In.f a b c = some (decide (b ≤ a ∧ a ≤ c)) := by
  unfold spec_l00In.f
  by_cases h : a ≥ b
  · rw [if_pos h]; simp; omega
  · rw [if_neg h]; simp; omega

theorem l02Powers (x n : Int) (h0 : 0 ≤ x) (h1 : x ≤ 10) (hn0 : 0 ≤ n) (hn : n ≤ 12) : Ev (fun k => spec_l02Powers.f k x n) (x ^ n.toNat) := by
  unfold spec_l02Powers.f
  obtain ⟨m, rfl⟩ := Int.eq_ofNat_of_zero_le hn0
  have main : ∀ d i : Nat, i + d = m → Ev (fun k => spec_l02Powers.l0 k x (d : Int) (x ^ i)) (x ^ m) := by
    intro d
    induction d with
    | zero =>
      intro i hi
      refine Ev.succ ?_
      simp only [spec_l02Powers.l0]
      exact Ev.neg (by omega) (Ev.val (by rw [show i = m by omega]))
    | succ d ih =>
      intro i hi
      refine Ev.succ ?_
      simp only [spec_l02Powers.l0]
      have hb := pow_bound x (i + 1) h0 h1 (by omega)
      rw [Int.pow_succ] at hb
      refine Ev.pos (by omega) ?_
      rw [wrap_id (x := ((d + 1 : Nat) : Int) - 1) (by omega) (by omega), wrap_id (x := x ^ i * x) (by omega) (by omega), ← Int.pow_succ, show ((d + 1 : Nat) : Int) - 1 = (d : Int) by omega]
      exact ih (i + 1) (by omega)
  have := main m 0 (by omega)
  rw [Int.pow_zero] at this
  exact this

theorem l02Is (s r : Int) (t : List Int) (hl : t.length ≤ 35184372088832) : Ev (fun k => spec_l02Is.f k s r t) (validRule s r t) := by
  unfold spec_l02Is.f validRule
  refine Ev.bnd (l00In s 2 3) ?_
  by_cases hs : 2 ≤ s ∧ s ≤ 3
  · refine Ev.pos (by simpa using hs) (Ev.bnd (l00In r 0 2) ?_)
    by_cases hr : 0 ≤ r ∧ r ≤ 2
    · refine Ev.pos (by simpa using hr) ?_
      rw [wrap_id (x := 2 * r) (by omega) (by omega), wrap_id (x := 2 * r + 1) (by omega) (by omega)]
      refine Ev.bind (l02Powers s (2 * r + 1) (by omega) (by omega) (by omega) (by omega)) (Ev.succ ?_)
      simp only [spec_l02Is.j0]
      by_cases hn : (t.length : Int) = s ^ (2 * r + 1).toNat
      · refine Ev.neg (by simp [hn]) ?_
        rw [decide_eq_true hs, decide_eq_true hr, decide_eq_true hn, Bool.true_and, Bool.true_and, Bool.true_and]
        refine Ev.upto t.length (fun i => ∀ j, (hj : j < t.length) → j < i → 0 ≤ t[j] ∧ t[j] ≤ s - 1) (fun _ => ()) _ (fun k _ i => spec_l02Is.l0 k i s r t) (fun i hi hp ih => ?_) (fun hp => ?_) (fun j hj h => by omega)
        · refine Ev.succ ?_
          simp only [spec_l02Is.l0]
          refine Ev.pos (by omega) (Ev.pos (by omega) ?_)
          rw [rd_lt t i (by omega), wrap_id (x := s - 1) (by omega) (by omega), wrap_id (x := (i : Int) + 1) (by omega) (by omega)]
          refine Ev.bnd (l00In _ _ _) ?_
          by_cases c : 0 ≤ t[i] ∧ t[i] ≤ s - 1
          · exact Ev.pos (by simpa using c) (ih (upTo_succ (p := fun x => 0 ≤ x ∧ x ≤ s - 1) hi hp c))
          · exact Ev.neg (by simpa using c) (Ev.val (by rw [allIn_false i (by omega) c]))
        · refine Ev.succ ?_
          simp only [spec_l02Is.l0]
          exact Ev.neg (by omega) (Ev.val (by rw [allIn_true (fun j hj' => hp j hj' (by omega))]))
      · exact Ev.pos (by simp [hn]) (Ev.val (by simp [hn]))
    · refine Ev.neg (by simpa using hr) (Ev.succ ?_)
      simp only [spec_l02Is.j0]
      exact Ev.pos (by trivial) (Ev.val (by simp [hr]))
  · refine Ev.neg (by simpa using hs) (Ev.succ ?_)
    simp only [spec_l02Is.j0]
    exact Ev.pos (by trivial) (Ev.val (by simp [hs]))

theorem within (a b c : Int) : impl_within.f a b c = some (decide (b ≤ a ∧ a ≤ c)) := by
  unfold impl_within.f
  by_cases h : a ≥ b
  · rw [if_pos h]; simp; omega
  · rw [if_neg h]; simp; omega

theorem areWithin (l : List Int) (a b : Int) (hl : l.length ≤ 35184372088832) : Ev (fun k => impl_areWithin.f k l a b) (allIn l a b) := by
  unfold impl_areWithin.f
  refine Ev.upto l.length (fun i => ∀ j, (hj : j < l.length) → j < i → a ≤ l[j] ∧ l[j] ≤ b) (fun _ => ()) _ (fun k _ i => impl_areWithin.l0 k a b l l.length i) (fun i hi hp ih => ?_) (fun hp => ?_) (fun j hj h => by omega)
  · refine Ev.succ ?_
    simp only [impl_areWithin.l0]
    refine Ev.pos (by omega) (Ev.pos (by omega) (Ev.pos (by omega) ?_))
    rw [rd_lt l i (by omega), wrap_id (by omega) (by omega), within]
    by_cases c : a ≤ l[i] ∧ l[i] ≤ b
    · exact Ev.bnd rfl (Ev.pos (by simpa using c) (ih (upTo_succ (p := fun x => a ≤ x ∧ x ≤ b) hi hp c)))
    · exact Ev.bnd rfl (Ev.neg (by simpa using c) (Ev.val (by rw [allIn_false i (by omega) c])))
  · refine Ev.succ ?_
    simp only [impl_areWithin.l0]
    exact Ev.neg (by omega) (Ev.val (by rw [allIn_true (fun j hj' => hp j hj' (by omega))]))

theorem areMany (l : List Int) (a b c d : Int) (hl : l.length ≤ 35184372088832) : Ev (fun k => impl_areMany.f k l a b c d) (decide (a ≤ l.length ∧ l.length ≤ b) && allIn l c d) := by
  unfold impl_areMany.f
  refine Ev.bnd (within _ _ _) ?_
  by_cases h : a ≤ l.length ∧ l.length ≤ b
  · refine Ev.pos (by simpa using h) (Ev.cast (Ev.bind (areWithin l c d hl) (Ev.now _)) (by simp [h]))
  · exact Ev.neg (by simpa using h) (Ev.val (by simp [h]))

theorem areStates (s : Int) : impl_areStates.f s = some (decide (s = 2 ∨ s = 3)) := by
  unfold impl_areStates.f
  by_cases h : s = 2
  · rw [if_pos h]; simp [h]
  · rw [if_neg h]
    by_cases h3 : s = 3
    · subst h3; rfl
    · simp [h, h3]

theorem raised (x n : Int) (h0 : 0 ≤ x) (h1 : x ≤ 10) (hn0 : 0 ≤ n) (hn : n ≤ 12) : Ev (fun k => impl_raised.f k x n) (x ^ n.toNat) := by
  unfold impl_raised.f
  obtain ⟨m, rfl⟩ := Int.eq_ofNat_of_zero_le hn0
  rw [Int.toNat_natCast]
  refine Ev.congr (fun k => ?_) (Ev.upto m (fun _ => True) (fun i => x ^ i) (x ^ m) (fun k s i => impl_raised.l0 k x s m i) (fun i hi _ ih => ?_) (fun _ => ?_) trivial)
  · rw [Int.pow_zero]
  · refine Ev.succ ?_
    simp only [impl_raised.l0]
    have hb := pow_bound x (i + 1) h0 h1 (by omega)
    rw [Int.pow_succ] at hb
    refine Ev.pos (by omega) ?_
    rw [wrap_id (x := (i : Int) + 1) (by omega) (by omega), wrap_id (x := x ^ i * x) (by omega) (by omega), ← Int.pow_succ]
    exact ih trivial
  · refine Ev.succ ?_
    simp only [impl_raised.l0]
    exact Ev.neg (by omega) (Ev.now _)

theorem isReach (r : Int) : impl_isReach.f r = some (decide (0 ≤ r ∧ r ≤ 2)) := by
  unfold impl_isReach.f
  rw [within]; rfl
theorem ruleCells (s r : Int) (t : List Int) (h0 : 0 ≤ r) (h1 : r ≤ 2) : impl_Rule_cells.f s r t = some (2 * r + 1) := by
  unfold impl_Rule_cells.f
  rw [wrap_id (x := 2 * r) (by omega) (by omega), wrap_id (x := 2 * r + 1) (by omega) (by omega)]

theorem ValidRule (s r : Int) (t : List Int) (hl : t.length ≤ 35184372088832) : Ev (fun k => impl_ValidRule.f k s r t) (validRule s r t) := by
  unfold impl_ValidRule.f validRule
  refine Ev.bnd (areStates s) ?_
  by_cases hs : 2 ≤ s ∧ s ≤ 3
  · refine Ev.pos (by simp; omega) (Ev.bnd (isReach r) (Ev.succ ?_))
    simp only [impl_ValidRule.j0]
    by_cases hr : 0 ≤ r ∧ r ≤ 2
    · refine Ev.neg (by simpa using hr) (Ev.bnd (ruleCells s r t hr.1 hr.2) (Ev.bind (raised s (2 * r + 1) (by omega) (by omega) (by omega) (by omega)) ?_))
      rw [wrap_id (x := s - 1) (by omega) (by omega)]
      refine Ev.cast (Ev.bind (areMany t _ _ 0 (s - 1) hl) (Ev.now _)) ?_
      rw [decide_eq_true hs, decide_eq_true hr, Bool.true_and, Bool.true_and]
      congr 1
      exact decide_eq_decide.mpr (by omega)
    · exact Ev.pos (by simp; omega) (Ev.val (by simp [hr]))
  · refine Ev.neg (by simp; omega) (Ev.succ ?_)
    simp only [impl_ValidRule.j0]
    exact Ev.pos (by trivial) (Ev.val (by simp [hs]))

theorem digitsSpec (l : List Int) (hl : l.length ≤ 35184372088832) : Ev (fun k => spec_l08Digits.f k l) (strOfNums (l.map fun x => wrap64 (48 + x) % 256)) := by
  unfold spec_l08Digits.f
  refine Ev.upto l.length (fun _ => True) (fun i => (l.take i).map fun x => wrap64 (48 + x) % 256) _ (fun k s i => spec_l08Digits.l0 k l s i) (fun i hi _ ih => ?_) (fun _ => ?_) trivial
  · refine Ev.succ ?_
    simp only [spec_l08Digits.l0]
    have := ih trivial
    rw [List.take_succ_eq_append_getElem hi, List.map_append] at this
    rw [rd_lt l i hi, wrap_id (x := (i : Int) + 1) (by omega) (by omega)]
    exact Ev.pos (by omega) (Ev.pos (by omega) (Ev.pos (by rw [List.length_map, List.length_take]; omega) this))
  · refine Ev.succ ?_
    simp only [spec_l08Digits.l0]
    exact Ev.neg (by omega) (Ev.val (by rw [List.take_length]))
theorem digitsImpl (l : List Int) (hl : l.length ≤ 35184372088832) : Ev (fun k => impl_digitText.f k l) (strOfNums (l.map fun x => wrap64 (48 + x) % 256)) := by
  unfold impl_digitText.f
  refine Ev.upto l.length (fun _ => True) (fun i => (l.take i).map fun x => wrap64 (48 + x) % 256) _ (fun k s i => impl_digitText.l0 k s l l.length i) (fun i hi _ ih => ?_) (fun _ => ?_) trivial
  · refine Ev.succ ?_
    simp only [impl_digitText.l0]
    have := ih trivial
    rw [List.take_succ_eq_append_getElem hi, List.map_append] at this
    rw [rd_lt l i hi, wrap_id (x := (i : Int) + 1) (by omega) (by omega)]
    exact Ev.pos (by omega) (Ev.pos (by omega) (Ev.pos (by omega) (Ev.pos (by rw [List.length_map, List.length_take]; omega) this)))
  · refine Ev.succ ?_
    simp only [impl_digitText.l0]
    exact Ev.neg (by omega) (Ev.val (by rw [List.take_length]))

/-- The digits of a number below 100. -/
def dd (u : Nat) : List UInt8 := if u < 10 then [UInt8.ofNat (48 + u)] else [UInt8.ofNat (48 + u / 10), UInt8.ofNat (48 + u % 10)]
theorem dec_dd (u : Nat) (h : u < 100) : Go.Lib.decDigits u = dd u := by
  unfold dd
  rw [Go.Lib.decDigits]
  by_cases c : u < 10
  · rw [dif_pos c, if_pos c]
  · rw [dif_neg c, if_neg c, Go.Lib.decDigits, dif_pos (by omega)]; rfl
def ddB (u : Nat) : ByteArray := ⟨(dd u).toArray⟩
theorem ddB_size (u : Nat) : (ddB u).size ≤ 2 := by
  unfold ddB dd
  split <;> simp [ByteArray.size]
theorem tabDec : ∀ i : Fin 25, (spec_l01Dec.f 6 (i.val : Int)).map (fun s => s.data.toList) = some (dd i.val) := by decide +kernel
theorem decSpec (n : Nat) (h : n < 25) : Ev (fun k => spec_l01Dec.f k (n : Int)) (ddB n) := by
  refine Ev.of_mono (fun k => spec_l01Dec.mono _ k) 6 ?_
  obtain ⟨s, hs, he⟩ := Option.map_eq_some_iff.1 (tabDec ⟨n, h⟩)
  rw [show ((⟨n, h⟩ : Fin 25).val : Int) = (n : Int) from rfl] at hs
  rw [hs]
  congr 1
  apply ByteArray.ext
  have := congrArg List.toArray he
  simpa [ddB] using this
theorem decImpl (n : Nat) (h : n < 100) : impl_Decimal.f (n : Int) = some (ddB n) := by
  unfold impl_Decimal.f strconv_FormatInt.f
  rw [if_pos rfl, if_pos (by omega), if_pos (by omega), Int.toNat_natCast, dec_dd n h, Option.bind_some]
  rfl
def text2 (a b : Nat) : ByteArray := ddB a ++ ((⟨#[44]⟩ : ByteArray) ++ ddB b)
theorem text2_size (a b : Nat) : (text2 a b).size ≤ 5 := by
  unfold text2
  rw [ByteArray.size_append, ByteArray.size_append]
  have := ddB_size a
  have := ddB_size b
  have : (⟨#[44]⟩ : ByteArray).size = 1 := rfl
  omega
theorem rd2_0 (x y : Int) : rd [x, y] 0 = x := rfl
theorem rd2_1 (x y : Int) : rd [x, y] 1 = y := rfl
theorem textSpec2 (a b : Nat) (ha : a < 25) (hb : b < 25) : Ev (fun k => spec_l01Text.f k [(a : Int), (b : Int)]) (text2 a b) := by
  have h1 := ddB_size a
  have h2 := ddB_size b
  unfold spec_l01Text.f
  rw [rd2_0]
  refine Ev.neg (by simp) (Ev.pos (by simp) (Ev.bind (decSpec a ha) (Ev.succ ?_)))
  simp only [spec_l01Text.l0]
  rw [rd2_1, wrap_id (x := (1 : Int) + 1) (by omega) (by omega)]
  refine Ev.pos (by simp) (Ev.pos (by omega) (Ev.bind (decSpec b hb) (Ev.pos (by omega) (Ev.pos (by omega) (Ev.succ ?_)))))
  simp only [spec_l01Text.l0]
  exact Ev.neg (by simp) (Ev.now _)
theorem joined2 (a b : Nat) : impl_joined.f [ddB a, ddB b] = some (text2 a b) := by
  have h1 := ddB_size a
  have h2 := ddB_size b
  have e : (Go.Lib.join ([ddB a, ddB b].map (·.data.toList)) (⟨#[44]⟩ : ByteArray).data.toList) = dd a ++ ([44] ++ dd b) := by
    rw [List.map_cons, Go.Lib.join_cons]
    simp [Go.Lib.joinTail, ddB]
  have hl : ∀ u, (dd u).length ≤ 2 := fun u => by unfold dd; split <;> simp
  have l1 := hl a
  have l2 := hl b
  unfold impl_joined.f strings_Join.f
  rw [if_neg (by simp), e, if_pos (by simp), if_pos (by simp; omega), if_pos (by simp)]
  simp only [Option.bind_some]
  congr 1
theorem textImpl2 (a b : Nat) (ha : a < 25) (hb : b < 25) : Ev (fun k => impl_ListText.f k [(a : Int), (b : Int)]) (text2 a b, true) := by
  have iv : ∀ n : Nat, n < 25 → impl_isValue.f (n : Int) = some true := fun n hn => by
    unfold impl_isValue.f
    rw [within, decide_eq_true (by omega)]; rfl
  unfold impl_ListText.f
  refine Ev.bind (a := true) ?_ (Ev.pos rfl (Ev.bind (a := text2 a b) ?_ (Ev.now _)))
  · unfold impl_areValues.f
    refine Ev.succ ?_
    simp only [impl_areValues.l0]
    rw [rd2_0, wrap_id (x := (0 : Int) + 1) (by omega) (by omega)]
    refine Ev.pos (by simp) (Ev.pos (by omega) (Ev.pos (by simp) (Ev.bnd (iv a ha) (Ev.pos rfl (Ev.succ ?_)))))
    simp only [impl_areValues.l0]
    rw [show (0 : Int) + 1 = 1 from rfl, rd2_1, wrap_id (x := (1 : Int) + 1) (by omega) (by omega)]
    refine Ev.pos (by simp) (Ev.pos (by omega) (Ev.pos (by simp) (Ev.bnd (iv b hb) (Ev.pos rfl (Ev.succ ?_)))))
    simp only [impl_areValues.l0]
    exact Ev.neg (by simp) (Ev.val (by simp))
  · unfold impl_listText.f
    refine Ev.succ ?_
    simp only [impl_listText.l0]
    rw [rd2_0, wrap_id (x := (0 : Int) + 1) (by omega) (by omega)]
    refine Ev.pos (by simp) (Ev.pos (by omega) (Ev.pos (by simp) (Ev.bnd (decImpl a (by omega)) (Ev.pos (by simp) (Ev.succ ?_)))))
    simp only [impl_listText.l0]
    rw [show (0 : Int) + 1 = 1 from rfl, rd2_1, wrap_id (x := (1 : Int) + 1) (by omega) (by omega)]
    refine Ev.pos (by simp) (Ev.pos (by omega) (Ev.pos (by simp) (Ev.bnd (decImpl b (by omega)) (Ev.pos (by simp) (Ev.succ ?_)))))
    simp only [impl_listText.l0]
    exact Ev.neg (by simp) (Ev.bnd (joined2 a b) (Ev.now _))
/-- Two numbers, and digits behind them. -/
def headText (a b : Nat) (l : List Int) : ByteArray := (text2 a b ++ (⟨#[59]⟩ : ByteArray)) ++ strOfNums (l.map fun x => wrap64 (48 + x) % 256)
theorem headedImpl (a b : Nat) (ha : a < 25) (hb : b < 25) (l : List Int) (hl : l.length ≤ 35184372088832) : Ev (fun k => impl_headed.f k (a : Int) (b : Int) l) (headText a b l, true) := by
  have h1 := text2_size a b
  unfold impl_headed.f
  refine Ev.bind (textImpl2 a b ha hb) (Ev.pos (by dsimp only; omega) (Ev.bind (digitsImpl l hl) (Ev.pos ?_ (Ev.now _))))
  rw [str_size, List.length_map]
  dsimp only
  omega

noncomputable def ruleText (s r : Int) (t : List Int) : ByteArray × Bool := if validRule s r t = true then (headText s.toNat r.toNat t, true) else (⟨#[]⟩, false)
theorem rule_small {s r : Int} {t : List Int} (h : validRule s r t = true) : 0 ≤ s ∧ s < 25 ∧ 0 ≤ r ∧ r < 25 := by
  unfold validRule at h
  simp only [Bool.and_eq_true, decide_eq_true_eq] at h
  omega
theorem ruleTextSpec (s r : Int) (t : List Int) (ht : t.length ≤ 35184372088832) : Ev (fun k => spec_RuleText.f k s r t) (ruleText s r t) := by
  unfold spec_RuleText.f ruleText
  refine Ev.bind (l02Is s r t ht) ?_
  by_cases g : validRule s r t = true
  · have hs := rule_small g
    obtain ⟨a, rfl⟩ := Int.eq_ofNat_of_zero_le hs.1
    obtain ⟨b, rfl⟩ := Int.eq_ofNat_of_zero_le hs.2.2.1
    have h1 := text2_size a b
    rw [if_pos g, Int.toNat_natCast, Int.toNat_natCast]
    refine Ev.pos g (Ev.bind (a := headText a b t) ?_ (Ev.now _))
    unfold spec_l08Rule.f
    refine Ev.bind (textSpec2 a b (by omega) (by omega)) (Ev.pos (by omega) (Ev.bind (digitsSpec t ht) (Ev.pos ?_ (Ev.now _))))
    rw [str_size, List.length_map]
    omega
  · rw [if_neg g]
    exact Ev.neg g (Ev.now _)
theorem ruleTextImpl (s r : Int) (t : List Int) (ht : t.length ≤ 35184372088832) : Ev (fun k => impl_RuleText.f k s r t) (ruleText s r t) := by
  unfold impl_RuleText.f ruleText
  refine Ev.bind (ValidRule s r t ht) ?_
  by_cases g : validRule s r t = true
  · have hs := rule_small g
    obtain ⟨a, rfl⟩ := Int.eq_ofNat_of_zero_le hs.1
    obtain ⟨b, rfl⟩ := Int.eq_ofNat_of_zero_le hs.2.2.1
    rw [if_pos g, Int.toNat_natCast, Int.toNat_natCast]
    exact Ev.pos g (Ev.bind (headedImpl a b (by omega) (by omega) t ht) (Ev.now _))
  · rw [if_neg g]
    exact Ev.neg g (Ev.now _)
theorem FnExactRuleText : laws_FnExactRuleText.Pure := by
  intro s r t _ _ ht
  have hl : t.length ≤ 35184372088832 := by omega
  refine Ev.rounds ?_
  unfold laws_FnExactRuleText.f
  refine Ev.bnd (szRule s r t 1048576 hl (by omega) (by omega)) ?_
  by_cases c : (if (1048576 : Int) - t.length < 0 then (-1 : Int) else 1048576 - t.length) < 0
  · exact Ev.pos c (Ev.now _)
  · refine Ev.neg c (Ev.bind (toRule s r t hl) (Ev.bind (ruleTextSpec s r t hl) (Ev.bind (toRule s r t hl) (Ev.bind (ruleTextImpl s r t hl) (Ev.pos rfl (Ev.succ ?_))))))
    simp only [laws_FnExactRuleText.j0]
    exact Ev.neg (by simp) (Ev.bind (toRule s r t hl) (Ev.bind (eqRule _ _ _ _ _ _ hl) (Ev.pos (by simp) (Ev.now _))))

end Go.Proofs.YtnkmojmcdcjkmaaDoor.Pure

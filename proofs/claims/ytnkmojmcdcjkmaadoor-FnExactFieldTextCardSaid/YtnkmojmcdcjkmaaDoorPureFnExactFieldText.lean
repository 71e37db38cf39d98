/- FieldText of the program and of the reference answer the same for every field. -/
import Derived.Test.YtnkmojmcdcjkmaaDoorPFnExactFieldTextx0
import Derived.Test.YtnkmojmcdcjkmaaDoorPFnExactFieldTextx1
import Derived.Test.YtnkmojmcdcjkmaaDoorPFnExactFieldTextx2
import Derived.Test.YtnkmojmcdcjkmaaDoorLib
namespace Go.Proofs.YtnkmojmcdcjkmaaDoor.Pure
open Go.RowKit Go.Proofs.YtnkmojmcdcjkmaaDoor.PFnExactFieldText Go.Proofs.YtnkmojmcdcjkmaaDoorW.PrintWords Go.Proofs.YtnkmojmcdcjkmaaDoorW.PrintLast Go.Proofs.YtnkmojmcdcjkmaaDoor.L
set_option linter.unusedVariables false
set_option linter.unusedSimpArgs false

theorem toInt64S (l : List Int) (hl : l.length ≤ 35184372088832) : Ev (fun k => laws_toInt64S.f k l) l := by
  unfold laws_toInt64S.f
  refine Ev.pos (by omega) (Ev.pos (by omega) ?_)
  refine Ev.cast (Ev.upto l.length (fun _ => True) (fun i => l.take i ++ List.replicate (l.length - i) 0) l (fun k s i => laws_toInt64S.l0 k l s i) (fun i hi _ ih => ?_) (fun _ => ?_) trivial) rfl
  · refine Ev.succ ?_
    simp only [laws_toInt64S.l0]
    refine Ev.pos (by omega) (Ev.pos (by omega) (Ev.pos (by simp; omega) ?_))
    rw [wrap_id (by omega) (by omega), Int.toNat_natCast, rd_lt l i hi, take_set_rep l i hi]
    exact ih trivial
  · refine Ev.succ ?_
    simp only [laws_toInt64S.l0]
    exact Ev.neg (by omega) (Ev.val (by simp))

theorem toField (s r : Int) (t : List Int) (hl : t.length ≤ 35184372088832) : Ev (fun k => laws_toField.f k s r t) (s, r, t) := by
  unfold laws_toField.f
  exact Ev.bind (toInt64S t hl) (Ev.now _)

theorem eqInt64S (l m : List Int) (hl : l.length ≤ 35184372088832) : Ev (fun k => laws_eqInt64S.f k l m) (decide (l = m)) := by
  unfold laws_eqInt64S.f
  by_cases h : l.length = m.length
  · refine Ev.pos (by omega) ?_
    refine Ev.upto l.length (fun i => ∀ j, j < i → l[j]? = m[j]?) (fun _ => ()) _ (fun k _ i => laws_eqInt64S.l0 k l m i) (fun i hi hp ih => ?_) (fun hp => ?_) (fun j hj => by omega)
    · refine Ev.succ ?_
      simp only [laws_eqInt64S.l0]
      refine Ev.pos (by omega) (Ev.pos (by omega) (Ev.pos (by omega) ?_))
      rw [rd_lt l i (by omega), rd_lt m i (by omega)]
      by_cases e : l[i] = m[i]
      · refine Ev.pos e ?_
        rw [wrap_id (by omega) (by omega)]
        exact ih (fun j hj' => by
          by_cases hji : j < i
          · exact hp j hji
          · obtain rfl : j = i := by omega
            rw [List.getElem?_eq_getElem (by omega), List.getElem?_eq_getElem (by omega), e])
      · refine Ev.neg e (Ev.val ?_)
        rw [eq_comm, Option.some.injEq, decide_eq_false_iff_not]
        rintro rfl
        exact e rfl
    · refine Ev.succ ?_
      simp only [laws_eqInt64S.l0]
      refine Ev.neg (by omega) (Ev.val ?_)
      have : l = m := List.ext_getElem? (fun j => by
        by_cases hjl : j < l.length
        · exact hp j (by omega)
        · rw [List.getElem?_eq_none (by omega), List.getElem?_eq_none (by omega)])
      simp [this]
  · refine Ev.neg (by omega) (Ev.val ?_)
    rw [eq_comm, Option.some.injEq, decide_eq_false_iff_not]
    rintro rfl
    exact h rfl

theorem eqField (s r : Int) (t : List Int) (s' r' : Int) (t' : List Int) (hl : t.length ≤ 35184372088832) : Ev (fun k => laws_eqField.f k s r t s' r' t') (decide (s = s' ∧ r = r' ∧ t = t')) := by
  unfold laws_eqField.f
  exact Ev.cast (Ev.andP (fun _ => Ev.andP (fun _ => Ev.eqs (eqInt64S t t' hl)))) (by simp only [Bool.decide_and])

theorem szInt64S (l : List Int) (a : Int) (hl : l.length ≤ 35184372088832) (h0 : -1000000000000 ≤ a) (h1 : a ≤ 1000000000000) : laws_szInt64S.f l a = some (if a - l.length < 0 then -1 else a - l.length) := by
  unfold laws_szInt64S.f
  rw [wrap_id (x := a - l.length) (by omega) (by omega)]
  split <;> rfl

theorem szField (s r : Int) (t : List Int) (a : Int) (hl : t.length ≤ 35184372088832) (h0 : 0 ≤ a) (h1 : a ≤ 1000000000) : laws_szField.f s r t a = some (if a - t.length < 0 then -1 else a - t.length) := by
  unfold laws_szField.f
  rw [szInt64S t a hl (by omega) (by omega)]
  by_cases c : a - (t.length : Int) < 0
  · rw [if_pos c]; rfl
  · rw [if_neg c]
    show (if _ then _ else _) = _
    rw [if_neg c]

theorem l00In (a b c : Int) : spec_l00In.f a b c = some (decide (b ≤ a ∧ a ≤ c)) := by
  unfold spec_l00In.f
  by_cases h : a ≥ b
  · rw [if_pos h]; simp; omega
  · rw [if_neg h]; simp; omega

theorem l04Is (r c : Int) (l : List Int) (hl : l.length ≤ 35184372088832) : Ev (fun k => spec_l04Is.f k r c l) (validField r c l) := by
  unfold spec_l04Is.f validField
  refine Ev.bnd (l00In r 1 24) ?_
  by_cases hr : 1 ≤ r ∧ r ≤ 24
  · refine Ev.pos (by simpa using hr) (Ev.bnd (l00In c 1 24) ?_)
    by_cases hc : 1 ≤ c ∧ c ≤ 24
    · have hm1 : 0 ≤ r * c := Int.mul_nonneg (by omega) (by omega)
      have hm2 : r * c ≤ 24 * c := Int.mul_le_mul_of_nonneg_right hr.2 (by omega)
      rw [wrap_id (x := r * c) (by omega) (by omega)]
      refine Ev.pos (by simpa using hc) (Ev.succ ?_)
      simp only [spec_l04Is.j0]
      by_cases hn : (l.length : Int) = r * c
      · refine Ev.neg (by simp [hn]) ?_
        rw [decide_eq_true hr, decide_eq_true hc, decide_eq_true hn, Bool.true_and, Bool.true_and, Bool.true_and]
        refine Ev.upto l.length (fun i => ∀ j, (hj : j < l.length) → j < i → 0 ≤ l[j] ∧ l[j] ≤ 9) (fun _ => ()) _ (fun k _ i => spec_l04Is.l0 k i r c l) (fun i hi hp ih => ?_) (fun hp => ?_) (fun j hj h => by omega)
        · refine Ev.succ ?_
          simp only [spec_l04Is.l0]
          refine Ev.pos (by omega) (Ev.pos (by omega) ?_)
          rw [rd_lt l i (by omega), wrap_id (x := (i : Int) + 1) (by omega) (by omega)]
          refine Ev.bnd (l00In _ _ _) ?_
          by_cases c : 0 ≤ l[i] ∧ l[i] ≤ 9
          · exact Ev.pos (by simpa using c) (ih (upTo_succ (p := fun x => 0 ≤ x ∧ x ≤ 9) hi hp c))
          · exact Ev.neg (by simpa using c) (Ev.val (by rw [allIn_false i (by omega) c]))
        · refine Ev.succ ?_
          simp only [spec_l04Is.l0]
          exact Ev.neg (by omega) (Ev.val (by rw [allIn_true (fun j hj' => hp j hj' (by omega))]))
      · exact Ev.pos (by simp [hn]) (Ev.val (by simp [hn]))
    · refine Ev.neg (by simpa using hc) (Ev.succ ?_)
      simp only [spec_l04Is.j0]
      exact Ev.pos (by trivial) (Ev.val (by simp [hc]))
  · refine Ev.neg (by simpa using hr) (Ev.succ ?_)
    simp only [spec_l04Is.j0]
    exact Ev.pos (by trivial) (Ev.val (by simp [hr]))

theorem within (a b c : Int) : impl_within.f a b c = some (decide (b ≤ a ∧ a ≤ c)) := by
  unfold impl_within.f
  by_cases h : a ≥ b
  · rw [if_pos h]; simp; omega
  · rw [if_neg h]; simp; omega

theorem areWithin (l : List Int) (a b : Int) (hl : l.length ≤ 35184372088832) : Ev (fun k => impl_areWithin.f k l a b) (allIn l a b) := by
  unfold impl_areWithin.f
  refine Ev.upto l.length (fun i => ∀ j, (hj : j < l.length) → j < i → a ≤ l[j] ∧ l[j] ≤ b) (fun _ => ()) _ (fun k _ i => impl_areWithin.l0 k a b l l.length i) (fun i hi hp ih => ?_) (fun hp => ?_) (fun j hj h => by omega)
  · refine Ev.succ ?_
    simp only [impl_areWithin.l0]
    refine Ev.pos (by omega) (Ev.pos (by omega) (Ev.pos (by omega) ?_))
    rw [rd_lt l i (by omega), wrap_id (by omega) (by omega), within]
    by_cases c : a ≤ l[i] ∧ l[i] ≤ b
    · exact Ev.bnd rfl (Ev.pos (by simpa using c) (ih (upTo_succ (p := fun x => a ≤ x ∧ x ≤ b) hi hp c)))
    · exact Ev.bnd rfl (Ev.neg (by simpa using c) (Ev.val (by rw [allIn_false i (by omega) c])))
  · refine Ev.succ ?_
    simp only [impl_areWithin.l0]
    exact Ev.neg (by omega) (Ev.val (by rw [allIn_true (fun j hj' => hp j hj' (by omega))]))

theorem areMany (l : List Int) (a b c d : Int) (hl : l.length ≤ 35184372088832) : Ev (fun k => impl_areMany.f k l a b c d) (decide (a ≤ l.length ∧ l.length ≤ b) && allIn l c d) := by
  unfold impl_areMany.f
  refine Ev.bnd (within _ _ _) ?_
  by_cases h : a ≤ l.length ∧ l.length ≤ b
  · refine Ev.pos (by simpa using h) (Ev.cast (Ev.bind (areWithin l c d hl) (Ev.now _)) (by simp [h]))
  · exact Ev.neg (by simpa using h) (Ev.val (by simp [h]))

theorem isSide (r : Int) : impl_isSide.f r = some (decide (1 ≤ r ∧ r ≤ 24)) := by
  unfold impl_isSide.f
  rw [within]; rfl
theorem ValidField (r c : Int) (l : List Int) (hl : l.length ≤ 35184372088832) : Ev (fun k => impl_ValidField.f k r c l) (validField r c l) := by
  unfold impl_ValidField.f validField
  refine Ev.cast (Ev.andB (isSide r) (fun hr => Ev.andB (isSide c) (fun hc => ?_))) (by rw [← Bool.and_assoc, ← Bool.and_assoc])
  rw [decide_eq_true_eq] at hr hc
  have hm1 : 0 ≤ r * c := Int.mul_nonneg (by omega) (by omega)
  have hm2 : r * c ≤ 24 * c := Int.mul_le_mul_of_nonneg_right hr.2 (by omega)
  rw [wrap_id (x := r * c) (by omega) (by omega)]
  refine Ev.cast (Ev.ret (areMany l _ _ 0 9 hl)) ?_
  congr 1
  exact decide_eq_decide.mpr (by omega)

theorem digitsSpec (l : List Int) (hl : l.length ≤ 35184372088832) : Ev (fun k => spec_l08Digits.f k l) (strOfNums (l.map fun x => wrap64 (48 + x) % 256)) := by
  unfold spec_l08Digits.f
  refine Ev.upto l.length (fun _ => True) (fun i => (l.take i).map fun x => wrap64 (48 + x) % 256) _ (fun k s i => spec_l08Digits.l0 k l s i) (fun i hi _ ih => ?_) (fun _ => ?_) trivial
  · refine Ev.succ ?_
    simp only [spec_l08Digits.l0]
    have := ih trivial
    rw [List.take_succ_eq_append_getElem hi, List.map_append] at this
    rw [rd_lt l i hi, wrap_id (x := (i : Int) + 1) (by omega) (by omega)]
    exact Ev.pos (by omega) (Ev.pos (by omega) (Ev.pos (by rw [List.length_map, List.length_take]; omega) this))
  · refine Ev.succ ?_
    simp only [spec_l08Digits.l0]
    exact Ev.neg (by omega) (Ev.val (by rw [List.take_length]))
theorem digitsImpl (l : List Int) (hl : l.length ≤ 35184372088832) : Ev (fun k => impl_digitText.f k l) (strOfNums (l.map fun x => wrap64 (48 + x) % 256)) := by
  unfold impl_digitText.f
  refine Ev.upto l.length (fun _ => True) (fun i => (l.take i).map fun x => wrap64 (48 + x) % 256) _ (fun k s i => impl_digitText.l0 k s l l.length i) (fun i hi _ ih => ?_) (fun _ => ?_) trivial
  · refine Ev.succ ?_
    simp only [impl_digitText.l0]
    have := ih trivial
    rw [List.take_succ_eq_append_getElem hi, List.map_append] at this
    rw [rd_lt l i hi, wrap_id (x := (i : Int) + 1) (by omega) (by omega)]
    exact Ev.pos (by omega) (Ev.pos (by omega) (Ev.pos (by omega) (Ev.pos (by rw [List.length_map, List.length_take]; omega) this)))
  · refine Ev.succ ?_
    simp only [impl_digitText.l0]
    exact Ev.neg (by omega) (Ev.val (by rw [List.take_length]))

/-- The digits of a number below 100. -/
def dd (u : Nat) : List UInt8 := if u < 10 then [UInt8.ofNat (48 + u)] else [UInt8.ofNat (48 + u / 10), UInt8.ofNat (48 + u % 10)]
theorem dec_dd (u : Nat) (h : u < 100) : Go.Lib.decDigits u = dd u := by
  unfold dd
  rw [Go.Lib.decDigits]
  by_cases c : u < 10
  · rw [dif_pos c, if_pos c]
  · rw [dif_neg c, if_neg c, Go.Lib.decDigits, dif_pos (by omega)]; rfl
def ddB (u : Nat) : ByteArray := ⟨(dd u).toArray⟩
theorem ddB_size (u : Nat) : (ddB u).size ≤ 2 := by
  unfold ddB dd
  split <;> simp [ByteArray.size]
theorem tabDec : ∀ i : Fin 25, (spec_l01Dec.f 6 (i.val : Int)).map (fun s => s.data.toList) = some (dd i.val) := by decide +kernel
theorem decSpec (n : Nat) (h : n < 25) : Ev (fun k => spec_l01Dec.f k (n : Int)) (ddB n) := by
  refine Ev.of_mono (fun k => spec_l01Dec.mono _ k) 6 ?_
  obtain ⟨s, hs, he⟩ := Option.map_eq_some_iff.1 (tabDec ⟨n, h⟩)
  rw [show ((⟨n, h⟩ : Fin 25).val : Int) = (n : Int) from rfl] at hs
  rw [hs]
  congr 1
  apply ByteArray.ext
  have := congrArg List.toArray he
  simpa [ddB] using this
theorem decImpl (n : Nat) (h : n < 100) : impl_Decimal.f (n : Int) = some (ddB n) := by
  unfold impl_Decimal.f strconv_FormatInt.f
  rw [if_pos rfl, if_pos (by omega), if_pos (by omega), Int.toNat_natCast, dec_dd n h, Option.bind_some]
  rfl
def text2 (a b : Nat) : ByteArray := ddB a ++ ((⟨#[44]⟩ : ByteArray) ++ ddB b)
theorem text2_size (a b : Nat) : (text2 a b).size ≤ 5 := by
  unfold text2
  rw [ByteArray.size_append, ByteArray.size_append]
  have := ddB_size a
  have := ddB_size b
  have : (⟨#[44]⟩ : ByteArray).size = 1 := rfl
  omega
theorem rd2_0 (x y : Int) : rd [x, y] 0 = x := rfl
theorem rd2_1 (x y : Int) : rd [x, y] 1 = y := rfl
theorem textSpec2 (a b : Nat) (ha : a < 25) (hb : b < 25) : Ev (fun k => spec_l01Text.f k [(a : Int), (b : Int)]) (text2 a b) := by
  have h1 := ddB_size a
  have h2 := ddB_size b
  unfold spec_l01Text.f
  rw [rd2_0]
  refine Ev.neg (by simp) (Ev.pos (by simp) (Ev.bind (decSpec a ha) (Ev.succ ?_)))
  simp only [spec_l01Text.l0]
  rw [rd2_1, wrap_id (x := (1 : Int) + 1) (by omega) (by omega)]
  refine Ev.pos (by simp) (Ev.pos (by omega) (Ev.bind (decSpec b hb) (Ev.pos (by omega) (Ev.pos (by omega) (Ev.succ ?_)))))
  simp only [spec_l01Text.l0]
  exact Ev.neg (by simp) (Ev.now _)
theorem joined2 (a b : Nat) : impl_joined.f [ddB a, ddB b] = some (text2 a b) := by
  have h1 := ddB_size a
  have h2 := ddB_size b
  have e : (Go.Lib.join ([ddB a, ddB b].map (·.data.toList)) (⟨#[44]⟩ : ByteArray).data.toList) = dd a ++ ([44] ++ dd b) := by
    rw [List.map_cons, Go.Lib.join_cons]
    simp [Go.Lib.joinTail, ddB]
  have hl : ∀ u, (dd u).length ≤ 2 := fun u => by unfold dd; split <;> simp
  have l1 := hl a
  have l2 := hl b
  unfold impl_joined.f strings_Join.f
  rw [if_neg (by simp), e, if_pos (by simp), if_pos (by simp; omega), if_pos (by simp)]
  simp only [Option.bind_some]
  congr 1
theorem textImpl2 (a b : Nat) (ha : a < 25) (hb : b < 25) : Ev (fun k => impl_ListText.f k [(a : Int), (b : Int)]) (text2 a b, true) := by
  have iv : ∀ n : Nat, n < 25 → impl_isValue.f (n : Int) = some true := fun n hn => by
    unfold impl_isValue.f
    rw [within, decide_eq_true (by omega)]; rfl
  unfold impl_ListText.f
  refine Ev.bind (a := true) ?_ (Ev.pos rfl (Ev.bind (a := text2 a b) ?_ (Ev.now _)))
  · unfold impl_areValues.f
    refine Ev.succ ?_
    simp only [impl_areValues.l0]
    rw [rd2_0, wrap_id (x := (0 : Int) + 1) (by omega) (by omega)]
    refine Ev.pos (by simp) (Ev.pos (by omega) (Ev.pos (by simp) (Ev.bnd (iv a ha) (Ev.pos rfl (Ev.succ ?_)))))
    simp only [impl_areValues.l0]
    rw [show (0 : Int) + 1 = 1 from rfl, rd2_1, wrap_id (x := (1 : Int) + 1) (by omega) (by omega)]
    refine Ev.pos (by simp) (Ev.pos (by omega) (Ev.pos (by simp) (Ev.bnd (iv b hb) (Ev.pos rfl (Ev.succ ?_)))))
    simp only [impl_areValues.l0]
    exact Ev.neg (by simp) (Ev.val (by simp))
  · unfold impl_listText.f
    refine Ev.succ ?_
    simp only [impl_listText.l0]
    rw [rd2_0, wrap_id (x := (0 : Int) + 1) (by omega) (by omega)]
    refine Ev.pos (by simp) (Ev.pos (by omega) (Ev.pos (by simp) (Ev.bnd (decImpl a (by omega)) (Ev.pos (by simp) (Ev.succ ?_)))))
    simp only [impl_listText.l0]
    rw [show (0 : Int) + 1 = 1 from rfl, rd2_1, wrap_id (x := (1 : Int) + 1) (by omega) (by omega)]
    refine Ev.pos (by simp) (Ev.pos (by omega) (Ev.pos (by simp) (Ev.bnd (decImpl b (by omega)) (Ev.pos (by simp) (Ev.succ ?_)))))
    simp only [impl_listText.l0]
    exact Ev.neg (by simp) (Ev.bnd (joined2 a b) (Ev.now _))
/-- Two numbers, and digits behind them. -/
def headText (a b : Nat) (l : List Int) : ByteArray := (text2 a b ++ (⟨#[59]⟩ : ByteArray)) ++ strOfNums (l.map fun x => wrap64 (48 + x) % 256)
theorem headedImpl (a b : Nat) (ha : a < 25) (hb : b < 25) (l : List Int) (hl : l.length ≤ 35184372088832) : Ev (fun k => impl_headed.f k (a : Int) (b : Int) l) (headText a b l, true) := by
  have h1 := text2_size a b
  unfold impl_headed.f
  refine Ev.bind (textImpl2 a b ha hb) (Ev.pos (by dsimp only; omega) (Ev.bind (digitsImpl l hl) (Ev.pos ?_ (Ev.now _))))
  rw [str_size, List.length_map]
  dsimp only
  omega

noncomputable def fieldText (s r : Int) (t : List Int) : ByteArray × Bool := if validField s r t = true then (headText s.toNat r.toNat t, true) else (⟨#[]⟩, false)
theorem field_small {s r : Int} {t : List Int} (h : validField s r t = true) : 0 ≤ s ∧ s < 25 ∧ 0 ≤ r ∧ r < 25 := by
  unfold validField at h
  simp only [Bool.and_eq_true, decide_eq_true_eq] at h
  omega
theorem fieldTextSpec (s r : Int) (t : List Int) (ht : t.length ≤ 35184372088832) : Ev (fun k => spec_FieldText.f k s r t) (fieldText s r t) := by
  unfold spec_FieldText.f fieldText
  refine Ev.bind (l04Is s r t ht) ?_
  by_cases g : validField s r t = true
  · have hs := field_small g
    obtain ⟨a, rfl⟩ := Int.eq_ofNat_of_zero_le hs.1
    obtain ⟨b, rfl⟩ := Int.eq_ofNat_of_zero_le hs.2.2.1
    have h1 := text2_size a b
    rw [if_pos g, Int.toNat_natCast, Int.toNat_natCast]
    refine Ev.pos g (Ev.bind (a := headText a b t) ?_ (Ev.now _))
    unfold spec_l08Field.f
    refine Ev.bind (textSpec2 a b (by omega) (by omega)) (Ev.pos (by omega) (Ev.bind (digitsSpec t ht) (Ev.pos ?_ (Ev.now _))))
    rw [str_size, List.length_map]
    omega
  · rw [if_neg g]
    exact Ev.neg g (Ev.now _)
theorem fieldTextImpl (s r : Int) (t : List Int) (ht : t.length ≤ 35184372088832) : Ev (fun k => impl_FieldText.f k s r t) (fieldText s r t) := by
  unfold impl_FieldText.f fieldText
  refine Ev.bind (ValidField s r t ht) ?_
  by_cases g : validField s r t = true
  · have hs := field_small g
    obtain ⟨a, rfl⟩ := Int.eq_ofNat_of_zero_le hs.1
    obtain ⟨b, rfl⟩ := Int.eq_ofNat_of_zero_le hs.2.2.1
    rw [if_pos g, Int.toNat_natCast, Int.toNat_natCast]
    exact Ev.pos g (Ev.bind (headedImpl a b (by omega) (by omega) t ht) (Ev.now _))
  · rw [if_neg g]
    exact Ev.neg g (Ev.now _)
theorem FnExactFieldText : laws_FnExactFieldText.Pure := by
  intro s r t _ _ ht
  have hl : t.length ≤ 35184372088832 := by omega
  refine Ev.rounds ?_
  unfold laws_FnExactFieldText.f
  refine Ev.bnd (szField s r t 1048576 hl (by omega) (by omega)) ?_
  by_cases c : (if (1048576 : Int) - t.length < 0 then (-1 : Int) else 1048576 - t.length) < 0
  · exact Ev.pos c (Ev.now _)
  · refine Ev.neg c (Ev.bind (toField s r t hl) (Ev.bind (fieldTextSpec s r t hl) (Ev.bind (toField s r t hl) (Ev.bind (fieldTextImpl s r t hl) (Ev.pos rfl (Ev.succ ?_))))))
    simp only [laws_FnExactFieldText.j0]
    exact Ev.neg (by simp) (Ev.bind (toField s r t hl) (Ev.bind (eqField _ _ _ _ _ _ hl) (Ev.pos (by simp) (Ev.now _))))

end Go.Proofs.YtnkmojmcdcjkmaaDoor.Pure

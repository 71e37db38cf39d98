/- RecoverAll of the program and of the reference answer the same for every text; what it answers shares no memory with another answer. -/
import Derived.Test.YtjhodohmifemiaaPFnExactRecoverAllx0
import Derived.Test.YtjhodohmifemiaaPFnExactRecoverAllx1
import Derived.Test.YtjhodohmifemiaaPFnExactRecoverAllx2
import Derived.Test.YtjhodohmifemiaaPFnExactRecoverAllx3
import Derived.Test.YtjhodohmifemiaaPFnExactRecoverAllx4
import Derived.Test.YtjhodohmifemiaaPFnExactRecoverAllx5
import Derived.Test.YtjhodohmifemiaaVFnExactRecoverAllLib
namespace Go.Proofs.Ytjhodohmifemiaa.Pure
open Go.RowKit Go.Proofs.Ytjhodohmifemiaa.PFnExactRecoverAll Go.Proofs.YtjhodohmifemiaaW.PrintWords Go.Proofs.YtjhodohmifemiaaW.PrintLast Go.Proofs.Ytjhodohmifemiaa.L
set_option linter.unusedVariables false
set_option linter.unusedSimpArgs false

theorem nameSpec (s : ByteArray) (hl : s.size ≤ 140737488351232) : Ev (fun k => spec_l07Name.f k s) (cd (nameOk s)) := by
  unfold spec_l07Name.f
  refine Ev.upto s.size (fun n => ∀ i : Nat, i < n → 97 ≤ bt s (i : Int) ∧ bt s (i : Int) ≤ 122) (fun _ => ()) _ (fun k _ i => spec_l07Name.l0 k s i) (fun i hi hp ih => ?_) (fun hp => ?_) (fun j hj => by omega)
  · refine Ev.succ ?_
    simp only [spec_l07Name.l0]
    rw [wrap_id (x := (i : Int) + 1) (by omega) (by omega)]
    refine Ev.pos (by omega) (Ev.pos (by omega) ?_)
    by_cases c1 : bt s (i : Int) < 97
    · exact Ev.pos c1 (Ev.val (by rw [cd_false]; intro h; have := h.1 i hi; omega))
    · refine Ev.neg c1 ?_
      by_cases c2 : bt s (i : Int) > 122
      · exact Ev.pos c2 (Ev.val (by rw [cd_false]; intro h; have := h.1 i hi; omega))
      · refine Ev.neg c2 (ih (fun j hj => ?_))
        by_cases e : j < i
        · exact hp j e
        · obtain rfl : j = i := by omega
          omega
  · refine Ev.succ ?_
    simp only [spec_l07Name.l0]
    refine Ev.neg (by omega) ?_
    by_cases c : (s.size : Int) ≥ 1
    · refine Ev.pos c (Ev.val ?_)
      by_cases c2 : (s.size : Int) ≤ 8
      · rw [decide_eq_true c2, cd_true ⟨hp, by omega, by omega⟩]
      · rw [decide_eq_false c2, cd_false (fun h => c2 (by have := h.2.2; omega))]
    · exact Ev.neg c (Ev.val (by rw [cd_false (fun h => c (by have := h.2.1; omega))]))
theorem nameImpl (s : ByteArray) (hl : s.size ≤ 140737488351232) : Ev (fun k => impl_IsName.f k s) (cd (nameOk s)) := by
  unfold impl_IsName.f
  refine Ev.upto s.size (fun n => ∀ i : Nat, i < n → 97 ≤ bt s (i : Int) ∧ bt s (i : Int) ≤ 122) (fun _ => ()) _ (fun k _ i => impl_IsName.l0 k s s.size i) (fun i hi hp ih => ?_) (fun hp => ?_) (fun j hj => by omega)
  · refine Ev.succ ?_
    simp only [impl_IsName.l0]
    rw [wrap_id (x := (i : Int) + 1) (by omega) (by omega)]
    refine Ev.pos (by omega) (Ev.pos (by omega) (Ev.pos (by omega) ?_))
    by_cases c1 : bt s (i : Int) < 97
    · exact Ev.pos c1 (Ev.val (by rw [cd_false]; intro h; have := h.1 i hi; omega))
    · refine Ev.neg c1 ?_
      by_cases c2 : bt s (i : Int) > 122
      · exact Ev.pos c2 (Ev.val (by rw [cd_false]; intro h; have := h.1 i hi; omega))
      · refine Ev.neg c2 (ih (fun j hj => ?_))
        by_cases e : j < i
        · exact hp j e
        · obtain rfl : j = i := by omega
          omega
  · refine Ev.succ ?_
    simp only [impl_IsName.l0]
    refine Ev.neg (by omega) ?_
    by_cases c : (s.size : Int) ≥ 1
    · refine Ev.pos c (Ev.val ?_)
      by_cases c2 : (s.size : Int) ≤ 8
      · rw [decide_eq_true c2, cd_true ⟨hp, by omega, by omega⟩]
      · rw [decide_eq_false c2, cd_false (fun h => c2 (by have := h.2.2; omega))]
    · exact Ev.neg c (Ev.val (by rw [cd_false (fun h => c (by have := h.2.1; omega))]))

theorem l00In (a b c : Int) : spec_l00In.f a b c = some (decide (b ≤ a ∧ a ≤ c)) := by
  unfold spec_l00In.f
  by_cases h : a ≥ b
  · rw [if_pos h]; simp; omega
  · rw [if_neg h]; simp; omega

theorem l02Powers (x n : Int) (h0 : 0 ≤ x) (h1 : x ≤ 10) (hn0 : 0 ≤ n) (hn : n ≤ 12) : Ev (fun k => spec_l02Powers.f k x n) (x ^ n.toNat) := by
  unfold spec_l02Powers.f
  obtain ⟨m, rfl⟩ := Int.eq_ofNat_of_zero_le hn0
  have main : ∀ d i : Nat, i + d = m → Ev (fun k => spec_l02Powers.l0 k x (d : Int) (x ^ i)) (x ^ m) := by
    intro d
    induction d with
    | zero =>
      intro i hi
      refine Ev.succ ?_
      simp only [spec_l02Powers.l0]
      exact Ev.neg (by omega) (Ev.val (by rw [show i = m by omega]))
    | succ d ih =>
      intro i hi
      refine Ev.succ ?_
      simp only [spec_l02Powers.l0]
      have hb := pow_bound x (i + 1) h0 h1 (by omega)
      rw [Int.pow_succ] at hb
      refine Ev.pos (by omega) ?_
      rw [wrap_id (x := ((d + 1 : Nat) : Int) - 1) (by omega) (by omega), wrap_id (x := x ^ i * x) (by omega) (by omega), ← Int.pow_succ, show ((d + 1 : Nat) : Int) - 1 = (d : Int) by omega]
      exact ih (i + 1) (by omega)
  have := main m 0 (by omega)
  rw [Int.pow_zero] at this
  exact this

theorem l02Is (s r : Int) (t : List Int) (hl : t.length ≤ 35184372088832) : Ev (fun k => spec_l02Is.f k s r t) (validRule s r t) := by
  unfold spec_l02Is.f validRule
  refine Ev.bnd (l00In s 2 3) ?_
  by_cases hs : 2 ≤ s ∧ s ≤ 3
  · refine Ev.pos (by simpa using hs) (Ev.bnd (l00In r 0 2) ?_)
    by_cases hr : 0 ≤ r ∧ r ≤ 2
    · refine Ev.pos (by simpa using hr) ?_
      rw [wrap_id (x := 2 * r) (by omega) (by omega), wrap_id (x := 2 * r + 1) (by omega) (by omega)]
      refine Ev.bind (l02Powers s (2 * r + 1) (by omega) (by omega) (by omega) (by omega)) (Ev.succ ?_)
      simp only [spec_l02Is.j0]
      by_cases hn : (t.length : Int) = s ^ (2 * r + 1).toNat
      · refine Ev.neg (by simp [hn]) ?_
        rw [decide_eq_true hs, decide_eq_true hr, decide_eq_true hn, Bool.true_and, Bool.true_and, Bool.true_and]
        refine Ev.upto t.length (fun i => ∀ j, (hj : j < t.length) → j < i → 0 ≤ t[j] ∧ t[j] ≤ s - 1) (fun _ => ()) _ (fun k _ i => spec_l02Is.l0 k i s r t) (fun i hi hp ih => ?_) (fun hp => ?_) (fun j hj h => by omega)
        · refine Ev.succ ?_
          simp only [spec_l02Is.l0]
          refine Ev.pos (by omega) (Ev.pos (by omega) ?_)
          rw [rd_lt t i (by omega), wrap_id (x := s - 1) (by omega) (by omega), wrap_id (x := (i : Int) + 1) (by omega) (by omega)]
          refine Ev.bnd (l00In _ _ _) ?_
          by_cases c : 0 ≤ t[i] ∧ t[i] ≤ s - 1
          · exact Ev.pos (by simpa using c) (ih (upTo_succ (p := fun x => 0 ≤ x ∧ x ≤ s - 1) hi hp c))
          · exact Ev.neg (by simpa using c) (Ev.val (by rw [allIn_false i (by omega) c]))
        · refine Ev.succ ?_
          simp only [spec_l02Is.l0]
          exact Ev.neg (by omega) (Ev.val (by rw [allIn_true (fun j hj' => hp j hj' (by omega))]))
      · exact Ev.pos (by simp [hn]) (Ev.val (by simp [hn]))
    · refine Ev.neg (by simpa using hr) (Ev.succ ?_)
      simp only [spec_l02Is.j0]
      exact Ev.pos (by trivial) (Ev.val (by simp [hr]))
  · refine Ev.neg (by simpa using hs) (Ev.succ ?_)
    simp only [spec_l02Is.j0]
    exact Ev.pos (by trivial) (Ev.val (by simp [hs]))

theorem within (a b c : Int) : impl_within.f a b c = some (decide (b ≤ a ∧ a ≤ c)) := by
  unfold impl_within.f
  by_cases h : a ≥ b
  · rw [if_pos h]; simp; omega
  · rw [if_neg h]; simp; omega

theorem areWithin (l : List Int) (a b : Int) (hl : l.length ≤ 35184372088832) : Ev (fun k => impl_areWithin.f k l a b) (allIn l a b) := by
  unfold impl_areWithin.f
  refine Ev.upto l.length (fun i => ∀ j, (hj : j < l.length) → j < i → a ≤ l[j] ∧ l[j] ≤ b) (fun _ => ()) _ (fun k _ i => impl_areWithin.l0 k a b l l.length i) (fun i hi hp ih => ?_) (fun hp => ?_) (fun j hj h => by omega)
  · refine Ev.succ ?_
    simp only [impl_areWithin.l0]
    refine Ev.pos (by omega) (Ev.pos (by omega) (Ev.pos (by omega) ?_))
    rw [rd_lt l i (by omega), wrap_id (by omega) (by omega), within]
    by_cases c : a ≤ l[i] ∧ l[i] ≤ b
    · exact Ev.bnd rfl (Ev.pos (by simpa using c) (ih (upTo_succ (p := fun x => a ≤ x ∧ x ≤ b) hi hp c)))
    · exact Ev.bnd rfl (Ev.neg (by simpa using c) (Ev.val (by rw [allIn_false i (by omega) c])))
  · refine Ev.succ ?_
    simp only [impl_areWithin.l0]
    exact Ev.neg (by omega) (Ev.val (by rw [allIn_true (fun j hj' => hp j hj' (by omega))]))

theorem areMany (l : List Int) (a b c d : Int) (hl : l.length ≤ 35184372088832) : Ev (fun k => impl_areMany.f k l a b c d) (decide (a ≤ l.length ∧ l.length ≤ b) && allIn l c d) := by
  unfold impl_areMany.f
  refine Ev.bnd (within _ _ _) ?_
  by_cases h : a ≤ l.length ∧ l.length ≤ b
  · refine Ev.pos (by simpa using h) (Ev.cast (Ev.bind (areWithin l c d hl) (Ev.now _)) (by simp [h]))
  · exact Ev.neg (by simpa using h) (Ev.val (by simp [h]))

theorem areStates (s : Int) : impl_areStates.f s = some (decide (s = 2 ∨ s = 3)) := by
  unfold impl_areStates.f
  by_cases h : s = 2
  · rw [if_pos h]; simp [h]
  · rw [if_neg h]
    by_cases h3 : s = 3
    · subst h3; rfl
    · simp [h, h3]

theorem raised (x n : Int) (h0 : 0 ≤ x) (h1 : x ≤ 10) (hn0 : 0 ≤ n) (hn : n ≤ 12) : Ev (fun k => impl_raised.f k x n) (x ^ n.toNat) := by
  unfold impl_raised.f
  obtain ⟨m, rfl⟩ := Int.eq_ofNat_of_zero_le hn0
  rw [Int.toNat_natCast]
  refine Ev.congr (fun k => ?_) (Ev.upto m (fun _ => True) (fun i => x ^ i) (x ^ m) (fun k s i => impl_raised.l0 k x s m i) (fun i hi _ ih => ?_) (fun _ => ?_) trivial)
  · rw [Int.pow_zero]
  · refine Ev.succ ?_
    simp only [impl_raised.l0]
    have hb := pow_bound x (i + 1) h0 h1 (by omega)
    rw [Int.pow_succ] at hb
    refine Ev.pos (by omega) ?_
    rw [wrap_id (x := (i : Int) + 1) (by omega) (by omega), wrap_id (x := x ^ i * x) (by omega) (by omega), ← Int.pow_succ]
    exact ih trivial
  · refine Ev.succ ?_
    simp only [impl_raised.l0]
    exact Ev.neg (by omega) (Ev.now _)

theorem isReach (r : Int) : impl_isReach.f r = some (decide (0 ≤ r ∧ r ≤ 2)) := by
  unfold impl_isReach.f
  rw [within]; rfl
theorem ruleCells (s r : Int) (t : List Int) (h0 : 0 ≤ r) (h1 : r ≤ 2) : impl_Rule_cells.f s r t = some (2 * r + 1) := by
  unfold impl_Rule_cells.f
  rw [wrap_id (x := 2 * r) (by omega) (by omega), wrap_id (x := 2 * r + 1) (by omega) (by omega)]

theorem ValidRule (s r : Int) (t : List Int) (hl : t.length ≤ 35184372088832) : Ev (fun k => impl_ValidRule.f k s r t) (validRule s r t) := by
  unfold impl_ValidRule.f validRule
  refine Ev.bnd (areStates s) ?_
  by_cases hs : 2 ≤ s ∧ s ≤ 3
  · refine Ev.pos (by simp; omega) (Ev.bnd (isReach r) (Ev.succ ?_))
    simp only [impl_ValidRule.j0]
    by_cases hr : 0 ≤ r ∧ r ≤ 2
    · refine Ev.neg (by simpa using hr) (Ev.bnd (ruleCells s r t hr.1 hr.2) (Ev.bind (raised s (2 * r + 1) (by omega) (by omega) (by omega) (by omega)) ?_))
      rw [wrap_id (x := s - 1) (by omega) (by omega)]
      refine Ev.cast (Ev.bind (areMany t _ _ 0 (s - 1) hl) (Ev.now _)) ?_
      rw [decide_eq_true hs, decide_eq_true hr, Bool.true_and, Bool.true_and]
      congr 1
      exact decide_eq_decide.mpr (by omega)
    · exact Ev.pos (by simp; omega) (Ev.val (by simp [hr]))
  · refine Ev.neg (by simp; omega) (Ev.succ ?_)
    simp only [impl_ValidRule.j0]
    exact Ev.pos (by trivial) (Ev.val (by simp [hs]))

theorem l04Is (r c : Int) (l : List Int) (hl : l.length ≤ 35184372088832) : Ev (fun k => spec_l04Is.f k r c l) (validField r c l) := by
  unfold spec_l04Is.f validField
  refine Ev.bnd (l00In r 1 24) ?_
  by_cases hr : 1 ≤ r ∧ r ≤ 24
  · refine Ev.pos (by simpa using hr) (Ev.bnd (l00In c 1 24) ?_)
    by_cases hc : 1 ≤ c ∧ c ≤ 24
    · have hm1 : 0 ≤ r * c := Int.mul_nonneg (by omega) (by omega)
      have hm2 : r * c ≤ 24 * c := Int.mul_le_mul_of_nonneg_right hr.2 (by omega)
      rw [wrap_id (x := r * c) (by omega) (by omega)]
      refine Ev.pos (by simpa using hc) (Ev.succ ?_)
      simp only [spec_l04Is.j0]
      by_cases hn : (l.length : Int) = r * c
      · refine Ev.neg (by simp [hn]) ?_
        rw [decide_eq_true hr, decide_eq_true hc, decide_eq_true hn, Bool.true_and, Bool.true_and, Bool.true_and]
        refine Ev.upto l.length (fun i => ∀ j, (hj : j < l.length) → j < i → 0 ≤ l[j] ∧ l[j] ≤ 9) (fun _ => ()) _ (fun k _ i => spec_l04Is.l0 k i r c l) (fun i hi hp ih => ?_) (fun hp => ?_) (fun j hj h => by omega)
        · refine Ev.succ ?_
          simp only [spec_l04Is.l0]
          refine Ev.pos (by omega) (Ev.pos (by omega) ?_)
          rw [rd_lt l i (by omega), wrap_id (x := (i : Int) + 1) (by omega) (by omega)]
          refine Ev.bnd (l00In _ _ _) ?_
          by_cases c : 0 ≤ l[i] ∧ l[i] ≤ 9
          · exact Ev.pos (by simpa using c) (ih (upTo_succ (p := fun x => 0 ≤ x ∧ x ≤ 9) hi hp c))
          · exact Ev.neg (by simpa using c) (Ev.val (by rw [allIn_false i (by omega) c]))
        · refine Ev.succ ?_
          simp only [spec_l04Is.l0]
          exact Ev.neg (by omega) (Ev.val (by rw [allIn_true (fun j hj' => hp j hj' (by omega))]))
      · exact Ev.pos (by simp [hn]) (Ev.val (by simp [hn]))
    · refine Ev.neg (by simpa using hc) (Ev.succ ?_)
      simp only [spec_l04Is.j0]
      exact Ev.pos (by trivial) (Ev.val (by simp [hc]))
  · refine Ev.neg (by simpa using hr) (Ev.succ ?_)
    simp only [spec_l04Is.j0]
    exact Ev.pos (by trivial) (Ev.val (by simp [hr]))

theorem isSide (r : Int) : impl_isSide.f r = some (decide (1 ≤ r ∧ r ≤ 24)) := by
  unfold impl_isSide.f
  rw [within]; rfl
theorem ValidField (r c : Int) (l : List Int) (hl : l.length ≤ 35184372088832) : Ev (fun k => impl_ValidField.f k r c l) (validField r c l) := by
  unfold impl_ValidField.f validField
  refine Ev.cast (Ev.andB (isSide r) (fun hr => Ev.andB (isSide c) (fun hc => ?_))) (by rw [← Bool.and_assoc, ← Bool.and_assoc])
  rw [decide_eq_true_eq] at hr hc
  have hm1 : 0 ≤ r * c := Int.mul_nonneg (by omega) (by omega)
  have hm2 : r * c ≤ 24 * c := Int.mul_le_mul_of_nonneg_right hr.2 (by omega)
  rw [wrap_id (x := r * c) (by omega) (by omega)]
  refine Ev.cast (Ev.ret (areMany l _ _ 0 9 hl)) ?_
  congr 1
  exact decide_eq_decide.mpr (by omega)

/-- What is saved is valid. -/
noncomputable def savedOk (nm : ByteArray) (s r : Int) (t : List Int) (p q : Int) (l : List Int) : Bool := cd (nameOk nm) && (validRule s r t && validField p q l)
theorem savedSpec (nm : ByteArray) (s r : Int) (t : List Int) (p q : Int) (l : List Int) (hn : nm.size ≤ 140737488351232) (ht : t.length ≤ 35184372088832) (hl : l.length ≤ 35184372088832) : Ev (fun k => spec_l07Saved.f k nm s r t p q l) (savedOk nm s r t p q l) := by
  unfold spec_l07Saved.f savedOk
  exact Ev.and (nameSpec nm hn) (fun _ => Ev.and (l02Is s r t ht) (fun _ => Ev.ret (l04Is p q l hl)))
theorem savedImpl (nm : ByteArray) (s r : Int) (t : List Int) (p q : Int) (l : List Int) (hn : nm.size ≤ 140737488351232) (ht : t.length ≤ 35184372088832) (hl : l.length ≤ 35184372088832) : Ev (fun k => impl_ValidSaved.f k nm s r t p q l) (savedOk nm s r t p q l) := by
  unfold impl_ValidSaved.f savedOk
  exact Ev.and (nameImpl nm hn) (fun _ => Ev.and (ValidRule s r t ht) (fun _ => Ev.ret (ValidField p q l hl)))

theorem strOf_append (xs ys : List Int) : strOfNums (xs ++ ys) = strOfNums xs ++ strOfNums ys := by
  unfold strOfNums
  apply ByteArray.ext
  rw [ByteArray.data_append]
  simp
theorem strOf_bytesOf (s : ByteArray) : strOfNums (bytesOf s) = s := by
  have e : ((fun n : Int => UInt8.ofNat n.toNat) ∘ fun b : UInt8 => (b.toNat : Int)) = id := by
    funext b
    simp
  unfold strOfNums bytesOf
  apply ByteArray.ext
  show (List.map _ (List.map _ _)).toArray = s.data
  rw [List.map_map, e, List.map_id]
/-- Numbers as bytes. -/
def byL (l : List Int) : List Int := l.map (· % 256)
theorem byL_length (l : List Int) : (byL l).length = l.length := by simp [byL]
/-- What is stored, as numbers, but for the check. -/
def storeL (nm : ByteArray) (s r : Int) (t : List Int) (p q : Int) (l : List Int) : List Int := [67, 69, 76, 49] ++ [(nm.size : Int) % 256] ++ bytesOf nm ++ [s % 256, r % 256] ++ byL t ++ [p % 256, q % 256] ++ byL l
/-- The check number behind n bytes. -/
def chk (s : ByteArray) : Nat → Int
  | 0 => 0
  | n + 1 => Int.tmod (wrap64 ((wrap64 ((wrap64 (947 * chk s n)) + (wrap64 (bt s (n : Int))))) + 211)) 65003
def tailL (c : Int) : List Int := [(Int.tmod c 256) % 256, (wrap64 (Int.tdiv c 256)) % 256]
/-- What is stored. -/
def storeB (nm : ByteArray) (s r : Int) (t : List Int) (p q : Int) (l : List Int) : ByteArray := strOfNums (storeL nm s r t p q l ++ tailL (chk (strOfNums (storeL nm s r t p q l)) (strOfNums (storeL nm s r t p q l)).size))
theorem storeB_size (nm : ByteArray) (s r : Int) (t : List Int) (p q : Int) (l : List Int) : (storeB nm s r t p q l).size = nm.size + t.length + l.length + 11 := by
  unfold storeB
  rw [str_size]
  simp [storeL, tailL, byL, bytesOf_length]
  omega
theorem checkSpec (s : ByteArray) (h : s.size ≤ 1000000000000) : Ev (fun k => spec_l01Check.f k 0 s) (chk s s.size) := by
  unfold spec_l01Check.f
  refine Ev.upto s.size (fun _ => True) (fun i => chk s i) _ (fun k c i => spec_l01Check.l0 k c s i) (fun i hi _ ih => ?_) (fun _ => ?_) trivial
  · refine Ev.succ ?_
    simp only [spec_l01Check.l0]
    rw [wrap_id (x := (i : Int) + 1) (by omega) (by omega)]
    exact Ev.pos (by omega) (Ev.pos (by omega) (ih trivial))
  · refine Ev.succ ?_
    simp only [spec_l01Check.l0]
    exact Ev.neg (by omega) (Ev.now _)
theorem checkImpl (s : ByteArray) (h : s.size ≤ 1000000000000) : Ev (fun k => impl_CheckOf.f k 0 s) (chk s s.size, true) := by
  unfold impl_CheckOf.f
  refine Ev.bnd (within _ _ _) (Ev.pos (by simp) ?_)
  refine Ev.upto s.size (fun _ => True) (fun i => chk s i) _ (fun k c i => impl_CheckOf.l0 k c s s.size i) (fun i hi _ ih => ?_) (fun _ => ?_) trivial
  · refine Ev.succ ?_
    simp only [impl_CheckOf.l0]
    rw [wrap_id (x := (i : Int) + 1) (by omega) (by omega)]
    exact Ev.pos (by omega) (Ev.pos (by omega) (Ev.pos (by omega) (ih trivial)))
  · refine Ev.succ ?_
    simp only [impl_CheckOf.l0]
    exact Ev.neg (by omega) (Ev.now _)
theorem keyOf (l : List Int) (h : l.length ≤ 1000000000000) : Ev (fun k => impl_keyOf.f k l) (strOfNums (byL l)) := by
  unfold impl_keyOf.f
  rw [Int.toNat_natCast]
  refine Ev.pos (by omega) (Ev.pos (by omega) ?_)
  refine Ev.congr (fun k => ?_) (Ev.upto l.length (fun _ => True) (fun i => (byL l).take i ++ (List.replicate l.length (0 : Int)).drop i) (strOfNums (byL l)) (fun k s i => impl_keyOf.l0 k s l l.length i) (fun i hi _ ih => ?_) (fun _ => ?_) trivial)
  · simp
  · refine Ev.succ ?_
    simp only [impl_keyOf.l0]
    have h1 := take_drop_set (byL l) (List.replicate l.length (0 : Int)) i (by rw [byL_length]; exact hi) (by rw [byL_length]; simp)
    have ih' := ih trivial
    rw [← h1] at ih'
    rw [rd_lt l i hi, wrap_id (x := (i : Int) + 1) (by omega) (by omega), Int.toNat_natCast]
    have e : (byL l)[i]'(by rw [byL_length]; exact hi) = l[i] % 256 := by simp [byL]
    rw [e] at ih'
    exact Ev.pos (by omega) (Ev.pos (by omega) (Ev.pos (by omega) (Ev.pos (by simp [byL_length]; omega) ih')))
  · refine Ev.succ ?_
    simp only [impl_keyOf.l0]
    rw [List.drop_of_length_le (by simp), List.append_nil, List.take_of_length_le (by simp [byL_length])]
    exact Ev.neg (by omega) (Ev.now _)
theorem byL_take_succ (l : List Int) (i : Nat) (h : i < l.length) : byL (l.take (i + 1)) = byL (l.take i) ++ [l[i] % 256] := by
  unfold byL
  rw [List.take_succ_eq_append_getElem h, List.map_append]; rfl
theorem storeSpec (nm : ByteArray) (s r : Int) (t : List Int) (p q : Int) (l : List Int) (hn : nm.size ≤ 1000) (ht : t.length ≤ 1000000) (hl : l.length ≤ 1000000) : Ev (fun k => spec_l07Store.f k nm s r t p q l) (storeB nm s r t p q l) := by
  unfold spec_l07Store.f
  simp only [Option.bind_some]
  have hb := bytesOf_length nm
  refine Ev.pos (by simp) (Ev.pos (by omega) (Ev.pos (by simp; omega) (Ev.pos (by simp; omega) ?_)))
  have hA : ([67, 69, 76, 49] ++ [(nm.size : Int) % 256] ++ bytesOf nm ++ [s % 256, r % 256]).length = nm.size + 7 := by simp [hb]
  generalize hAA : [67, 69, 76, 49] ++ [(nm.size : Int) % 256] ++ bytesOf nm ++ [s % 256, r % 256] = A at hA
  refine Ev.congr (fun k => ?_) (Ev.upto t.length (fun _ => True) (fun i => A ++ byL (t.take i)) (storeB nm s r t p q l) (fun k x i => spec_l07Store.l0 k x t.length i nm s r t p q l) (fun i hi _ ih => ?_) (fun _ => ?_) trivial)
  · simp [byL]
  · refine Ev.succ ?_
    simp only [spec_l07Store.l0]
    have ih' := ih trivial
    rw [byL_take_succ t i hi, ← List.append_assoc] at ih'
    rw [rd_lt t i hi, wrap_id (x := (i : Int) + 1) (by omega) (by omega)]
    exact Ev.pos (by omega) (Ev.pos (by omega) (Ev.pos (by omega) (Ev.pos (by rw [List.length_append, byL_length, List.length_take]; omega) ih')))
  · refine Ev.succ ?_
    simp only [spec_l07Store.l0, Option.bind_some]
    rw [List.take_length]
    refine Ev.neg (by omega) (Ev.pos (by simp [byL_length]; omega) ?_)
    have hB : (A ++ byL t ++ [p % 256, q % 256]).length = nm.size + t.length + 9 := by simp [byL_length, hA]; omega
    generalize hBB : A ++ byL t ++ [p % 256, q % 256] = B at hB
    refine Ev.congr (fun k => ?_) (Ev.upto l.length (fun _ => True) (fun i => B ++ byL (l.take i)) (storeB nm s r t p q l) (fun k x i => spec_l07Store.l1 k x l.length i nm s r t p q l) (fun i hi _ ih => ?_) (fun _ => ?_) trivial)
    · simp [byL]
    · refine Ev.succ ?_
      simp only [spec_l07Store.l1]
      have ih' := ih trivial
      rw [byL_take_succ l i hi, ← List.append_assoc] at ih'
      rw [rd_lt l i hi, wrap_id (x := (i : Int) + 1) (by omega) (by omega)]
      exact Ev.pos (by omega) (Ev.pos (by omega) (Ev.pos (by omega) (Ev.pos (by rw [List.length_append, byL_length, List.length_take]; omega) ih')))
    · refine Ev.succ ?_
      simp only [spec_l07Store.l1, Option.bind_some]
      rw [List.take_length]
      have hC : B ++ byL l = storeL nm s r t p q l := by unfold storeL; rw [hAA, hBB]
      have hCl : (B ++ byL l).length = nm.size + t.length + l.length + 9 := by rw [List.length_append, byL_length, hB]; omega
      rw [hC] at hCl
      rw [hC]
      refine Ev.neg (by omega) (Ev.bind (checkSpec _ (by rw [str_size, hCl]; omega)) (Ev.pos (by rw [hCl]; simp; omega) (Ev.now _)))
theorem storeStr (nm : ByteArray) (s r : Int) (t : List Int) (p q : Int) (l : List Int) : ((((⟨#[67, 69, 76, 49]⟩ : ByteArray) ++ strOfNums [(nm.size : Int) % 256]) ++ nm) ++ (strOfNums (byL [s, r]) ++ strOfNums (byL t))) ++ (strOfNums (byL [p, q]) ++ strOfNums (byL l)) = strOfNums (storeL nm s r t p q l) := by
  unfold storeL
  have e : strOfNums [67, 69, 76, 49] = (⟨#[67, 69, 76, 49]⟩ : ByteArray) := by rfl
  simp only [strOf_append, strOf_bytesOf, e, ByteArray.append_assoc]
  rfl
theorem storeImpl (nm : ByteArray) (s r : Int) (t : List Int) (p q : Int) (l : List Int) (hn : nm.size ≤ 1000) (ht : t.length ≤ 1000000) (hl : l.length ≤ 1000000) (hv : Ev (fun k => impl_ValidSaved.f k nm s r t p q l) true) : Ev (fun k => impl_StoreSaved.f k nm s r t p q l) (storeB nm s r t p q l, true) := by
  unfold impl_StoreSaved.f
  refine Ev.bind hv (Ev.pos rfl ?_)
  simp only [Option.bind_some]
  have k1 := keyOf [s, r] (by simp)
  have k2 := keyOf t (by omega)
  have k3 := keyOf [p, q] (by simp)
  have k4 := keyOf l (by omega)
  have z1 : (strOfNums (byL [s, r])).size = 2 := by rw [str_size, byL_length]; rfl
  have z2 : (strOfNums (byL t)).size = t.length := by rw [str_size, byL_length]
  have z3 : (strOfNums (byL [p, q])).size = 2 := by rw [str_size, byL_length]; rfl
  have z4 : (strOfNums (byL l)).size = l.length := by rw [str_size, byL_length]
  have z0 : (strOfNums [(nm.size : Int) % 256]).size = 1 := by rw [str_size]; rfl
  have zs : (strOfNums (storeL nm s r t p q l)).size = nm.size + t.length + l.length + 9 := by
    rw [str_size]
    simp [storeL, byL, bytesOf_length]
    omega
  have k5 := keyOf [Int.tmod (chk (strOfNums (storeL nm s r t p q l)) (strOfNums (storeL nm s r t p q l)).size) 256, wrap64 (Int.tdiv (chk (strOfNums (storeL nm s r t p q l)) (strOfNums (storeL nm s r t p q l)).size) 256)] (by simp)
  have z5 : (strOfNums (byL [Int.tmod (chk (strOfNums (storeL nm s r t p q l)) (strOfNums (storeL nm s r t p q l)).size) 256, wrap64 (Int.tdiv (chk (strOfNums (storeL nm s r t p q l)) (strOfNums (storeL nm s r t p q l)).size) 256)])).size = 2 := by rw [str_size, byL_length]; rfl
  refine Ev.pos (by omega) (Ev.pos (by omega) (Ev.bind k1 (Ev.bind k2 (Ev.pos (by omega) (Ev.pos (by omega) (Ev.bind k3 (Ev.bind k4 (Ev.pos (by omega) (Ev.pos (by omega) ?_)))))))))
  rw [storeStr]
  refine Ev.bind (checkImpl _ (by omega)) (Ev.bind k5 (Ev.pos (by omega) (Ev.val ?_)))
  unfold storeB
  rw [strOf_append]
  rfl

theorem saved_len {nm : ByteArray} {s r : Int} {t : List Int} {p q : Int} {l : List Int} (h : savedOk nm s r t p q l = true) : nm.size ≤ 1000 ∧ t.length ≤ 1000000 ∧ l.length ≤ 1000000 := by
  unfold savedOk at h
  simp only [Bool.and_eq_true] at h
  obtain ⟨h1, h2, h3⟩ := h
  have h1' := (cd_iff.1 h1).2.2
  refine ⟨by omega, ?_, ?_⟩
  · unfold validRule at h2
    simp only [Bool.and_eq_true, decide_eq_true_eq] at h2
    obtain ⟨⟨⟨hs, hr⟩, hn⟩, _⟩ := h2
    have : r = 0 ∨ r = 1 ∨ r = 2 := by omega
    have : s = 2 ∨ s = 3 := by omega
    rcases ‹r = 0 ∨ r = 1 ∨ r = 2› with rfl | rfl | rfl <;> rcases ‹s = 2 ∨ s = 3› with rfl | rfl <;> simp at hn <;> omega
  · unfold validField at h3
    simp only [Bool.and_eq_true, decide_eq_true_eq] at h3
    obtain ⟨⟨⟨hp, hq⟩, hn⟩, _⟩ := h3
    have h4 : p * q ≤ 24 * 24 := Int.mul_le_mul hp.2 hq.2 (by omega) (by omega)
    omega
/-- What StoreSaved answers. -/
noncomputable def storeSaved (nm : ByteArray) (s r : Int) (t : List Int) (p q : Int) (l : List Int) : ByteArray × Bool := if savedOk nm s r t p q l = true then (storeB nm s r t p q l, true) else (⟨#[]⟩, false)
theorem storeSavedImpl (nm : ByteArray) (s r : Int) (t : List Int) (p q : Int) (l : List Int) (hn : nm.size ≤ 140737488351232) (ht : t.length ≤ 35184372088832) (hl : l.length ≤ 35184372088832) : Ev (fun k => impl_StoreSaved.f k nm s r t p q l) (storeSaved nm s r t p q l) := by
  unfold storeSaved
  by_cases g : savedOk nm s r t p q l = true
  · have hs := saved_len g
    rw [if_pos g]
    exact storeImpl nm s r t p q l hs.1 hs.2.1 hs.2.2 (Ev.cast (savedImpl nm s r t p q l hn ht hl) g)
  · rw [if_neg g]
    unfold impl_StoreSaved.f
    exact Ev.bind (savedImpl nm s r t p q l hn ht hl) (Ev.neg g (Ev.now _))

/-- The bytes of a text. -/
theorem bytesOf_len (s : ByteArray) : (bytesOf s).length = s.size := by
  unfold bytesOf
  rw [List.length_map, Array.length_toList]
  rfl
theorem bytesOf_get (s : ByteArray) (i : Nat) (h : i < (bytesOf s).length) : (bytesOf s)[i] = bt s (i : Int) := by
  have hs : i < s.size := by rwa [bytesOf_len] at h
  have hl : i < s.data.size := hs
  unfold bt
  rw [dif_pos (by rw [Int.toNat_natCast]; exact hs)]
  simp only [bytesOf, List.getElem_map, Array.getElem_toList]
  rfl
theorem bytesOf_range (s : ByteArray) : ∀ x ∈ bytesOf s, 0 ≤ x ∧ x ≤ 255 := by
  intro x hx
  unfold bytesOf at hx
  rw [List.mem_map] at hx
  obtain ⟨b, _, rfl⟩ := hx
  have : b.toNat < 256 := b.toNat_lt
  omega

theorem l03Power (x n : Int) (h0 : 0 ≤ x) (h1 : x ≤ 10) (hn0 : 0 ≤ n) (hn : n ≤ 12) : Ev (fun k => spec_l03Power.f k x n) (x ^ n.toNat) := by
  unfold spec_l03Power.f
  obtain ⟨m, rfl⟩ := Int.eq_ofNat_of_zero_le hn0
  have main : ∀ d i : Nat, i + d = m → Ev (fun k => spec_l03Power.l0 k x (d : Int) (x ^ i)) (x ^ m) := by
    intro d
    induction d with
    | zero =>
      intro i hi
      refine Ev.succ ?_
      simp only [spec_l03Power.l0]
      exact Ev.neg (by omega) (Ev.val (by rw [show i = m by omega]))
    | succ d ih =>
      intro i hi
      refine Ev.succ ?_
      simp only [spec_l03Power.l0]
      have hb := pow_bound x (i + 1) h0 h1 (by omega)
      rw [Int.pow_succ] at hb
      refine Ev.pos (by omega) ?_
      rw [wrap_id (x := ((d + 1 : Nat) : Int) - 1) (by omega) (by omega), wrap_id (x := x ^ i * x) (by omega) (by omega), ← Int.pow_succ, show ((d + 1 : Nat) : Int) - 1 = (d : Int) by omega]
      exact ih (i + 1) (by omega)
  have := main m 0 (by omega)
  rw [Int.pow_zero] at this
  exact this

/-- A byte of a text. -/
def bn (s : ByteArray) (i : Nat) : Nat := (bt s (i : Int)).toNat
theorem bt_range (s : ByteArray) (i : Int) : 0 ≤ bt s i ∧ bt s i ≤ 255 := by
  unfold bt
  split
  · rename_i h
    have : (s[i.toNat]'h).toNat < 256 := (s[i.toNat]'h).toNat_lt
    omega
  · omega
theorem bt_bn (s : ByteArray) (i : Nat) : bt s (i : Int) = (bn s i : Int) := by
  have := bt_range s i
  unfold bn; omega
theorem bn_le (s : ByteArray) (i : Nat) : bn s i ≤ 255 := by
  have := bt_range s i
  unfold bn; omega
/-- The places in a text that begins with what is saved. -/
structure Offs (s : ByteArray) (A S R N C P Q E : Nat) : Prop where
  hA : A = 5 + bn s 4
  hS : S = bn s A
  hR : R = bn s (A + 1)
  hN : N = S ^ (2 * R + 1)
  hC : C = A + 2 + N
  hP : P = bn s C
  hQ : Q = bn s (C + 1)
  hE : E = C + 2 + P * Q
/-- A text begins with what is saved. -/
structure BegOk (s : ByteArray) (A S R C P Q E : Nat) : Prop where
  h1 : A + 2 ≤ s.size
  h2 : 2 ≤ S ∧ S ≤ 3
  h3 : R ≤ 2
  h4 : C + 2 ≤ s.size
  h5 : E + 2 ≤ s.size
  h6 : savedOk (s.extract 5 A) S R (bytesOf (s.extract (A + 2) C)) P Q (bytesOf (s.extract (C + 2) E)) = true
  h7 : storeB (s.extract 5 A) S R (bytesOf (s.extract (A + 2) C)) P Q (bytesOf (s.extract (C + 2) E)) = s.extract 0 (E + 2)
noncomputable def beginW (s : ByteArray) (A S R C P Q E : Nat) : ByteArray × Int × Int × List Int × Int × Int × List Int × Int :=
  if cd (BegOk s A S R C P Q E) = true then (s.extract 5 A, (S : Int), (R : Int), bytesOf (s.extract (A + 2) C), (P : Int), (Q : Int), bytesOf (s.extract (C + 2) E), ((E + 2 : Nat) : Int)) else (⟨#[]⟩, 0, 0, [], 0, 0, [], 0)
theorem beginW_ok {s : ByteArray} {A S R C P Q E : Nat} (h : BegOk s A S R C P Q E) : beginW s A S R C P Q E = (s.extract 5 A, (S : Int), (R : Int), bytesOf (s.extract (A + 2) C), (P : Int), (Q : Int), bytesOf (s.extract (C + 2) E), ((E + 2 : Nat) : Int)) := if_pos (cd_true h)
theorem beginW_no {s : ByteArray} {A S R C P Q E : Nat} (h : ¬ BegOk s A S R C P Q E) : beginW s A S R C P Q E = (⟨#[]⟩, 0, 0, [], 0, 0, [], 0) := if_neg (fun e => h (cd_iff.1 e))
theorem offs_ex (s : ByteArray) : ∃ A S R N C P Q E, Offs s A S R N C P Q E := ⟨_, _, _, _, _, _, _, _, rfl, rfl, rfl, rfl, rfl, rfl, rfl, rfl⟩
theorem Offs.uniq {s : ByteArray} {A S R N C P Q E A' S' R' N' C' P' Q' E' : Nat} (h : Offs s A S R N C P Q E) (h' : Offs s A' S' R' N' C' P' Q' E') : A' = A ∧ S' = S ∧ R' = R ∧ C' = C ∧ P' = P ∧ Q' = Q ∧ E' = E := by
  obtain ⟨rfl, rfl, rfl, rfl, rfl, rfl, rfl, rfl⟩ := h
  obtain ⟨rfl, rfl, rfl, rfl, rfl, rfl, rfl, rfl⟩ := h'
  exact ⟨rfl, rfl, rfl, rfl, rfl, rfl, rfl⟩
theorem pow_small {a b : Nat} (h : 2 ≤ a ∧ a ≤ 3) (hb : b ≤ 2) : a ^ (2 * b + 1) ≤ 243 := by
  rcases (by omega : a = 2 ∨ a = 3) with rfl | rfl <;> rcases (by omega : b = 0 ∨ b = 1 ∨ b = 2) with rfl | rfl | rfl <;> decide
theorem ext_size' (s : ByteArray) (a b : Nat) (h : b ≤ s.size) : (s.extract a b).size = b - a := by
  rw [ByteArray.size_extract]; omega
theorem l07Read (s : ByteArray) (hs : s.size ≤ 17592186044415) : Ev (fun k => spec_l07Read.f k s) (bytesOf s) := by
  unfold spec_l07Read.f
  have hn := bytesOf_len s
  refine Ev.congr (fun k => ?_) (Ev.upto (bytesOf s).length (fun _ => True) (fun i => (bytesOf s).take i) (bytesOf s) (fun k l i => spec_l07Read.l0 k s l i) (fun i hi _ ih => ?_) (fun _ => ?_) trivial)
  · simp
  · refine Ev.succ ?_
    simp only [spec_l07Read.l0]
    have e := bytesOf_get s i hi
    have hx := bytesOf_range s _ (List.getElem_mem hi)
    rw [← e]
    refine Ev.pos (by omega) (Ev.pos (by omega) (Ev.pos (by rw [List.length_take]; omega) ?_))
    have ih' := ih trivial
    rw [List.take_succ_eq_append_getElem hi] at ih'
    rw [wrap_id (x := (i : Int) + 1) (by omega) (by omega), wrap_id (x := (bytesOf s)[i]) (by omega) (by omega)]
    exact ih'
  · refine Ev.succ ?_
    simp only [spec_l07Read.l0]
    rw [List.take_length]
    exact Ev.neg (by omega) (Ev.now _)
theorem wrapTo {x y : Int} (h : x = y) (h0 : -9223372036854775808 ≤ y) (h1 : y ≤ 9223372036854775807) : wrap64 x = y := by subst h; exact wrap_id h0 h1
theorem wrapN (n : Nat) (h : n ≤ 9223372036854775807) : wrap64 (n : Int) = (n : Int) := wrap_id (by omega) (by omega)
theorem beginSpec (s : ByteArray) (hs : s.size ≤ 1048576) {A S R N C P Q E : Nat} (ho : Offs s A S R N C P Q E) : Ev (fun k => spec_l07Begin.f k s) (beginW s A S R C P Q E) := by
  unfold spec_l07Begin.f
  obtain ⟨hA, hS, hR, hN0, hC, hP, hQ, hE0⟩ := ho
  have b4 := bn_le s 4
  have bS : S ≤ 255 := by rw [hS]; exact bn_le _ _
  have bR : R ≤ 255 := by rw [hR]; exact bn_le _ _
  have bP : P ≤ 255 := by rw [hP]; exact bn_le _ _
  have bQ : Q ≤ 255 := by rw [hQ]; exact bn_le _ _
  have e4 : bt s 4 = (bn s 4 : Int) := bt_bn s 4
  have w1 : Aside0 (wrap64 (5 + wrap64 (bt s 4)) = (A : Int)) := by
    refine ⟨?_⟩
    rw [e4, wrapN _ (by omega)]; exact wrapTo (by omega) (by omega) (by omega)
  have w2 : Aside0 (wrap64 ((A : Int) + 2) = ((A + 2 : Nat) : Int)) := ⟨wrapTo (by omega) (by omega) (by omega)⟩
  have w3 : Aside0 (wrap64 ((A : Int) + 1) = ((A + 1 : Nat) : Int)) := ⟨wrapTo (by omega) (by omega) (by omega)⟩
  have w4 : Aside0 (wrap64 (bt s (A : Int)) = (S : Int)) := ⟨by rw [bt_bn, ← hS]; exact wrapN _ (by omega)⟩
  have w5 : Aside0 (wrap64 (bt s ((A + 1 : Nat) : Int)) = (R : Int)) := ⟨by rw [bt_bn, ← hR]; exact wrapN _ (by omega)⟩
  simp only [w1.out, w2.out, w3.out, w4.out, w5.out]
  by_cases c0 : s.size < 5
  · exact Ev.pos (by omega) (Ev.val (congrArg some (beginW_no (fun h => by have := h.h1; omega)).symm))
  refine Ev.neg (by omega) (Ev.pos (by omega) ?_)
  by_cases c1 : A + 2 ≤ s.size
  case neg => exact Ev.pos (by omega) (Ev.val (congrArg some (beginW_no (fun h => c1 h.h1)).symm))
  refine Ev.neg (by omega) (Ev.pos (by omega) (Ev.pos (by omega) (Ev.pos (by omega) (Ev.pos (by omega) (Ev.pos (by omega) (Ev.pos (by omega) (Ev.bnd (l00In _ _ _) ?_)))))))
  by_cases c2 : 2 ≤ S ∧ S ≤ 3
  case neg =>
    refine Ev.neg (by simp; omega) (Ev.succ ?_)
    simp only [spec_l07Begin.j0]
    exact Ev.pos trivial (Ev.val (congrArg some (beginW_no (fun h => c2 h.h2)).symm))
  refine Ev.pos (by simp; omega) (Ev.bnd (l00In _ _ _) (Ev.succ ?_))
  simp only [spec_l07Begin.j0]
  by_cases c3 : R ≤ 2
  case neg => exact Ev.pos (by simp; omega) (Ev.val (congrArg some (beginW_no (fun h => c3 h.h3)).symm))
  refine Ev.neg (by simp; omega) ?_
  have hN : N ≤ 243 := by rw [hN0]; exact pow_small c2 c3
  have v1 : Aside0 (wrap64 (wrap64 (2 * (R : Int)) + 1) = 2 * (R : Int) + 1) := ⟨by rw [wrap_id (x := 2 * (R : Int)) (by omega) (by omega)]; exact wrap_id (by omega) (by omega)⟩
  have hpw := l03Power (S : Int) (2 * (R : Int) + 1) (by omega) (by omega) (by omega) (by omega)
  rw [show (2 * (R : Int) + 1).toNat = 2 * R + 1 by omega, ← Int.natCast_pow, ← hN0] at hpw
  rw [v1.out]
  refine Ev.bind hpw ?_
  clear hpw hN0
  obtain ⟨M, hM⟩ : ∃ M, M = P * Q := ⟨_, rfl⟩
  have hMb : M ≤ 65025 := by rw [hM]; exact Nat.mul_le_mul bP bQ
  have hE : E = C + 2 + M := by rw [hE0, hM]
  have v7 : Aside0 (wrap64 ((P : Int) * (Q : Int)) = (M : Int)) := ⟨by rw [← Int.natCast_mul, ← hM]; exact wrapN _ (by omega)⟩
  clear hM hE0
  have v2 : Aside0 (wrap64 (((A + 2 : Nat) : Int) + (N : Int)) = (C : Int)) := ⟨wrapTo (by omega) (by omega) (by omega)⟩
  have v3 : Aside0 (wrap64 ((C : Int) + 2) = ((C + 2 : Nat) : Int)) := ⟨wrapTo (by omega) (by omega) (by omega)⟩
  have v4 : Aside0 (wrap64 ((C : Int) + 1) = ((C + 1 : Nat) : Int)) := ⟨wrapTo (by omega) (by omega) (by omega)⟩
  have v5 : Aside0 (wrap64 (bt s (C : Int)) = (P : Int)) := ⟨by rw [bt_bn, ← hP]; exact wrapN _ (by omega)⟩
  have v6 : Aside0 (wrap64 (bt s ((C + 1 : Nat) : Int)) = (Q : Int)) := ⟨by rw [bt_bn, ← hQ]; exact wrapN _ (by omega)⟩
  have v8 : Aside0 (wrap64 (((C + 2 : Nat) : Int) + (M : Int)) = (E : Int)) := ⟨wrapTo (by omega) (by omega) (by omega)⟩
  have v9 : Aside0 (wrap64 ((E : Int) + 2) = ((E + 2 : Nat) : Int)) := ⟨wrapTo (by omega) (by omega) (by omega)⟩
  simp only [w2.out, v2.out, v3.out, v4.out, v5.out, v6.out, v7.out, v8.out, v9.out]
  by_cases c4 : C + 2 ≤ s.size
  case neg => exact Ev.pos (by omega) (Ev.val (congrArg some (beginW_no (fun h => c4 h.h4)).symm))
  have r1 := l07Read (s.extract (A + 2) C) (by rw [ext_size' _ _ _ (by omega)]; omega)
  refine Ev.neg (by omega) (Ev.pos (by omega) (Ev.pos (by omega) (Ev.pos (by omega) (Ev.bind r1 (Ev.pos (by omega) (Ev.pos (by omega) (Ev.pos (by omega) (Ev.pos (by omega) ?_))))))))
  by_cases c5 : E + 2 ≤ s.size
  case neg => exact Ev.pos (by omega) (Ev.val (congrArg some (beginW_no (fun h => c5 h.h5)).symm))
  have r2 := l07Read (s.extract (C + 2) E) (by rw [ext_size' _ _ _ (by omega)]; omega)
  refine Ev.neg (by omega) (Ev.pos (by omega) (Ev.pos (by omega) (Ev.pos (by omega) (Ev.bind r2 ?_))))
  have z1 : (s.extract 5 A).size ≤ 1000 := by rw [ext_size' _ _ _ (by omega)]; omega
  have z2 : (bytesOf (s.extract (A + 2) C)).length ≤ 1000000 := by rw [bytesOf_len, ext_size' _ _ _ (by omega)]; omega
  have z3 : (bytesOf (s.extract (C + 2) E)).length ≤ 1000000 := by rw [bytesOf_len, ext_size' _ _ _ (by omega)]; omega
  refine Ev.bind (savedSpec (s.extract 5 A) S R (bytesOf (s.extract (A + 2) C)) P Q (bytesOf (s.extract (C + 2) E)) (by omega) (by omega) (by omega)) ?_
  by_cases c6 : savedOk (s.extract 5 A) S R (bytesOf (s.extract (A + 2) C)) P Q (bytesOf (s.extract (C + 2) E)) = true
  case neg => exact Ev.neg c6 (Ev.val (congrArg some (beginW_no (fun h => c6 h.h6)).symm))
  refine Ev.pos c6 (Ev.bind (storeSpec (s.extract 5 A) S R (bytesOf (s.extract (A + 2) C)) P Q (bytesOf (s.extract (C + 2) E)) z1 z2 z3) (Ev.pos (by omega) (Ev.pos (by omega) ?_)))
  by_cases c7 : storeB (s.extract 5 A) S R (bytesOf (s.extract (A + 2) C)) P Q (bytesOf (s.extract (C + 2) E)) = s.extract 0 (E + 2)
  · refine Ev.pos (by rw [c7]; rfl) (Ev.val (congrArg some (beginW_ok ⟨c1, c2, c3, c4, c5, c6, c7⟩).symm))
  · refine Ev.neg (fun h => c7 (by
      rw [ByteArray.toList_eq, ByteArray.toList_eq] at h
      exact ByteArray.ext (Array.toList_inj.1 h))) (Ev.val (congrArg some (beginW_no (fun h => c7 h.h7)).symm))
theorem repeatL_len (x : List UInt8) (n : Nat) : (Go.Lib.repeatL x n).length = x.length * n := by rw [Go.Lib.repeatL_length, Nat.mul_comm]
/-- So many bytes are taken, or it is told that they are not there. -/
theorem takeEx (s : ByteArray) (hs : s.size ≤ 1048576) (at_ m : Nat) (sh : Bool) (ha : at_ ≤ s.size) (hm : m ≤ 100000) : ∃ (x : ByteArray) (a' : Nat) (sh' : Bool), impl_taker_take.f s (at_ : Int) sh (m : Int) = some (x, s, (a' : Int), sh') ∧ x.size = m ∧ a' ≤ s.size ∧ (sh = true → sh' = true) ∧ (at_ + m ≤ s.size → x = s.extract at_ (at_ + m) ∧ a' = at_ + m ∧ sh' = sh) ∧ (¬ at_ + m ≤ s.size → sh' = true) := by
  unfold impl_taker_take.f
  rw [wrapTo (x := (s.size : Int) - (at_ : Int)) (y := ((s.size - at_ : Nat) : Int)) (by omega) (by omega) (by omega), wrapTo (x := (at_ : Int) + (m : Int)) (y := ((at_ + m : Nat) : Int)) (by omega) (by omega) (by omega), wrapTo (x := ((at_ + m : Nat) : Int) - (m : Int)) (y := (at_ : Int)) (by omega) (by omega) (by omega)]
  by_cases c : at_ + m ≤ s.size
  · rw [if_neg (by omega), if_pos (by omega), if_pos (by omega), if_pos (by omega), Int.toNat_natCast, Int.toNat_natCast]
    refine ⟨_, _, _, rfl, ?_, by omega, fun h => h, fun _ => ⟨rfl, rfl, rfl⟩, fun h => absurd c h⟩
    rw [ext_size' _ _ _ c]; omega
  · rw [if_pos (by omega)]
    have e : strings_Repeat.f (⟨#[0]⟩ : ByteArray) (m : Int) = some ⟨(Go.Lib.repeatL [0] m).toArray⟩ := by
      unfold strings_Repeat.f
      rw [if_pos (by omega), if_pos (by omega), Int.toNat_natCast, if_pos (by show 1 * m ≤ _; omega)]
    rw [e]
    refine ⟨⟨(Go.Lib.repeatL [0] m).toArray⟩, at_, true, rfl, ?_, ha, fun _ => rfl, fun h => absurd h c, fun _ => rfl⟩
    show (Go.Lib.repeatL [0] m).toArray.size = m
    rw [List.size_toArray, repeatL_len]; simp
/-- So many numbers are taken, or it is told that they are not there. -/
theorem numsEx (s : ByteArray) (hs : s.size ≤ 1048576) (at_ m : Nat) (sh : Bool) (ha : at_ ≤ s.size) (hm : m ≤ 100000) : ∃ (x : List Int) (a' : Nat) (sh' : Bool), Ev (fun k => impl_taker_numbers.f k s (at_ : Int) sh (m : Int)) (x, s, (a' : Int), sh') ∧ x.length = m ∧ (∀ y ∈ x, 0 ≤ y ∧ y ≤ 255) ∧ a' ≤ s.size ∧ (sh = true → sh' = true) ∧ (at_ + m ≤ s.size → x = bytesOf (s.extract at_ (at_ + m)) ∧ a' = at_ + m ∧ sh' = sh) ∧ (¬ at_ + m ≤ s.size → sh' = true) := by
  obtain ⟨x, a', sh', h1, h2, h3, h4, h5, h6⟩ := takeEx s hs at_ m sh ha hm
  refine ⟨bytesOf x, a', sh', ?_, by rw [bytesOf_len]; exact h2, bytesOf_range x, h3, h4, fun h => ⟨by rw [(h5 h).1], (h5 h).2⟩, h6⟩
  unfold impl_taker_numbers.f
  refine Ev.bnd h1 (Ev.pos (by show x.size ≤ _; omega) (Ev.bnd rfl ?_))
  refine Ev.congr (fun k => ?_) (Ev.upto (bytesOf x).length (fun _ => True) (fun i => (bytesOf x).take i) (bytesOf x, s, (a' : Int), sh') (fun k l i => impl_taker_numbers.l0 k l (bytesOf x) (bytesOf x).length i s a' sh') (fun i hi _ ih => ?_) (fun _ => ?_) trivial)
  · simp
  · have hn := bytesOf_len x
    refine Ev.succ ?_
    simp only [impl_taker_numbers.l0]
    have hx := bytesOf_range x _ (List.getElem_mem hi)
    rw [rd_lt (bytesOf x) i hi]
    have ih' := ih trivial
    rw [List.take_succ_eq_append_getElem hi] at ih'
    refine Ev.pos (by omega) (Ev.pos (by omega) (Ev.pos (by omega) (Ev.pos (by rw [List.length_take]; omega) ?_)))
    rw [wrap_id (x := (i : Int) + 1) (by omega) (by omega), wrap_id (x := (bytesOf x)[i]) (by omega) (by omega)]
    exact ih'
  · refine Ev.succ ?_
    simp only [impl_taker_numbers.l0]
    rw [List.take_length]
    exact Ev.neg (by omega) (Ev.now _)
theorem two_of {x : List Int} (h : x.length = 2) (hx : ∀ y ∈ x, 0 ≤ y ∧ y ≤ 255) : ∃ a b : Nat, a ≤ 255 ∧ b ≤ 255 ∧ x = [(a : Int), (b : Int)] := by
  match x, h with
  | [u, v], _ =>
    have hu := hx u (.head _)
    have hv := hx v (.tail _ (.head _))
    exact ⟨u.toNat, v.toNat, by omega, by omega, by rw [Int.toNat_of_nonneg hu.1, Int.toNat_of_nonneg hv.1]⟩
theorem one_of' {x : List Int} (h : x.length = 1) (hx : ∀ y ∈ x, 0 ≤ y ∧ y ≤ 255) : ∃ a : Nat, a ≤ 255 ∧ x = [(a : Int)] := by
  match x, h with
  | [u], _ =>
    have hu := hx u (.head _)
    exact ⟨u.toNat, by omega, by rw [Int.toNat_of_nonneg hu.1]⟩
theorem bytes_get (s : ByteArray) (a b i : Nat) (hb : b ≤ s.size) (hi : a + i < b) : (bytesOf (s.extract a b))[i]? = some (bn s (a + i) : Int) := by
  have hl : i < (bytesOf (s.extract a b)).length := by rw [bytesOf_len, ext_size' _ _ _ hb]; omega
  rw [List.getElem?_eq_getElem hl, bytesOf_get, ← bt_bn]
  congr 1
  have h1 : i < (s.extract a b).size := by rw [ext_size' _ _ _ hb]; omega
  unfold bt
  rw [dif_pos (by rw [Int.toNat_natCast]; exact h1), dif_pos (by rw [Int.toNat_natCast]; omega)]
  simp only [Int.toNat_natCast]
  rw [ByteArray.getElem_extract]
theorem bytes_one (s : ByteArray) (a : Nat) (h : a + 1 ≤ s.size) : bytesOf (s.extract a (a + 1)) = [(bn s a : Int)] := by
  have hl : (bytesOf (s.extract a (a + 1))).length = 1 := by rw [bytesOf_len, ext_size' _ _ _ h]; omega
  have h0 := bytes_get s a (a + 1) 0 h (by omega)
  match e : bytesOf (s.extract a (a + 1)), hl with
  | [u], _ => rw [e] at h0; simp at h0; rw [h0]
theorem bytes_two (s : ByteArray) (a : Nat) (h : a + 2 ≤ s.size) : bytesOf (s.extract a (a + 2)) = [(bn s a : Int), (bn s (a + 1) : Int)] := by
  have hl : (bytesOf (s.extract a (a + 2))).length = 2 := by rw [bytesOf_len, ext_size' _ _ _ h]; omega
  have h0 := bytes_get s a (a + 2) 0 h (by omega)
  have h1 := bytes_get s a (a + 2) 1 h (by omega)
  match e : bytesOf (s.extract a (a + 2)), hl with
  | [u, v], _ => rw [e] at h0 h1; simp at h0 h1; rw [h0, h1]
theorem unshort {sh sh' : Bool} {p : Prop} [Decidable p] (u : sh = true → sh' = true) (n : ¬ p → sh' = true) (h : sh' = false) : sh = false ∧ p := by
  constructor
  · cases sh with
    | false => rfl
    | true => exact absurd (u rfl) (by simp [h])
  · exact Decidable.byContradiction fun hc => absurd (n hc) (by simp [h])
theorem store_head (nm : ByteArray) (s r : Int) (t : List Int) (p q : Int) (l : List Int) : (storeB nm s r t p q l).data.toList.take 4 = [67, 69, 76, 49] := by
  unfold storeB storeL strOfNums
  simp
theorem begOk_head {s : ByteArray} {A S R C P Q E : Nat} (hE : C + 2 ≤ E) (h : BegOk s A S R C P Q E) : (s.extract 0 4).toList = [67, 69, 76, 49] := by
  have e := store_head (s.extract 5 A) S R (bytesOf (s.extract (A + 2) C)) P Q (bytesOf (s.extract (C + 2) E))
  rw [h.h7] at e
  rw [ByteArray.toList_eq, Go.Lib.extract_data]
  rw [Go.Lib.extract_data, List.drop_zero, List.take_take] at e
  rw [List.drop_zero, ← e]
  congr 1
  omega
theorem takenImpl (s : ByteArray) (hs : s.size ≤ 1048576) {A S R N C P Q E : Nat} (ho : Offs s A S R N C P Q E) : Ev (fun k => impl_taken.f k s) (beginW s A S R C P Q E) := by
  obtain ⟨hA, hS, hR, hN0, hC, hP, hQ, hE0⟩ := ho
  have zero : ∀ {X : Prop}, (BegOk s A S R C P Q E → False) → some ((⟨#[]⟩ : ByteArray), (0 : Int), (0 : Int), ([] : List Int), (0 : Int), (0 : Int), ([] : List Int), (0 : Int)) = some (beginW s A S R C P Q E) := fun h => congrArg some (beginW_no h).symm
  unfold impl_taken.f
  obtain ⟨x1, a1, sh1, f1, z1, l1, u1, g1, n1⟩ := takeEx s hs 0 4 false (by omega) (by omega)
  refine Ev.bnd f1 ?_
  by_cases c1 : x1.toList = [67, 69, 76, 49]
  case neg => exact Ev.neg c1 (Ev.val (zero (X := True) (fun h => c1 (by
    have := h.h1
    rw [(g1 (by omega)).1]
    exact begOk_head (by rw [hE0]; omega) h))))
  obtain ⟨y2, a2, sh2, f2, z2, r2, l2, u2, g2, n2⟩ := numsEx s hs a1 1 sh1 l1 (by omega)
  obtain ⟨nb, hnb, rfl⟩ := one_of' z2 r2
  refine Ev.pos c1 (Ev.bind f2 (Ev.pos (by simp) ?_))
  obtain ⟨x3, a3, sh3, f3, z3, l3, u3, g3, n3⟩ := takeEx s hs a2 nb sh2 l2 (by omega)
  obtain ⟨y4, a4, sh4, f4, z4, r4, l4, u4, g4, n4⟩ := numsEx s hs a3 2 sh3 l3 (by omega)
  obtain ⟨st, rc, hst, hrc, rfl⟩ := two_of z4 r4
  have V1 : sh4 = false → A + 2 ≤ s.size := by
    intro h
    obtain ⟨h3, d4⟩ := unshort u4 n4 h
    obtain ⟨h2, d3⟩ := unshort u3 n3 h3
    obtain ⟨h1, d2⟩ := unshort u2 n2 h2
    obtain ⟨_, d1⟩ := unshort u1 n1 h1
    obtain ⟨_, p1, _⟩ := g1 d1
    obtain ⟨e2, p2, _⟩ := g2 d2
    obtain ⟨_, p3, _⟩ := g3 d3
    rw [bytes_one s a1 d2, p1] at e2
    injection e2 with e2
    have : nb = bn s 4 := by exact_mod_cast e2
    omega
  have K1 : A + 2 ≤ s.size → x3 = s.extract 5 A ∧ st = S ∧ rc = R ∧ a4 = A + 2 ∧ sh4 = false := by
    intro h
    obtain ⟨_, p1, q1⟩ := g1 (by omega)
    obtain ⟨e2, p2, q2⟩ := g2 (by omega)
    rw [bytes_one s a1 (by omega), p1] at e2
    injection e2 with e2
    have e2' : nb = bn s 4 := by exact_mod_cast e2
    obtain ⟨e3, p3, q3⟩ := g3 (by omega)
    obtain ⟨e4, p4, q4⟩ := g4 (by omega)
    have ha3 : a3 = A := by omega
    rw [bytes_two s a3 (by omega), ha3] at e4
    injection e4 with e4 e5
    injection e5 with e5
    have ha2 : a2 = 5 := by omega
    refine ⟨by rw [e3, ha2, show 5 + nb = A by omega], by rw [hS]; exact_mod_cast e4, by rw [hR]; exact_mod_cast e5, by omega, by rw [q4, q3, q2, q1]⟩
  refine Ev.bnd f3 (Ev.bind f4 (Ev.pos (by simp) (Ev.pos (by simp) (Ev.bnd (areStates _) ?_))))
  have rd0 : rd [(st : Int), (rc : Int)] 0 = (st : Int) := rfl
  have rd1 : rd [(st : Int), (rc : Int)] 1 = (rc : Int) := rfl
  rw [rd0, rd1]
  by_cases cS : st = 2 ∨ st = 3
  case neg =>
    refine Ev.neg (by simp; omega) (Ev.succ ?_)
    simp only [impl_taken.j0]
    exact Ev.pos trivial (Ev.val (zero (X := True) (fun h => cS (by
      have := (K1 h.h1).2.1
      have := h.h2
      omega))))
  refine Ev.pos (by simp; omega) (Ev.bnd (isReach _) (Ev.succ ?_))
  simp only [impl_taken.j0]
  by_cases cR : rc ≤ 2
  case neg =>
    exact Ev.pos (by simp; omega) (Ev.val (zero (X := True) (fun h => cR (by
      have := (K1 h.h1).2.2.1
      have := h.h3
      omega))))
  refine Ev.neg (by simp; omega) (Ev.bnd (ruleCells _ _ _ (by omega) (by omega)) ?_)
  have hpw := raised (st : Int) (2 * (rc : Int) + 1) (by omega) (by omega) (by omega) (by omega)
  rw [show (2 * (rc : Int) + 1).toNat = 2 * rc + 1 by omega, ← Int.natCast_pow] at hpw
  refine Ev.bind hpw ?_
  clear hpw
  have hM : st ^ (2 * rc + 1) ≤ 243 := pow_small (by omega) cR
  obtain ⟨M, hM0⟩ : ∃ M, M = st ^ (2 * rc + 1) := ⟨_, rfl⟩
  rw [← hM0] at hM ⊢
  obtain ⟨y5, a5, sh5, f5, z5, r5, l5, u5, g5, n5⟩ := numsEx s hs a4 M sh4 l4 (by omega)
  obtain ⟨y6, a6, sh6, f6, z6, r6, l6, u6, g6, n6⟩ := numsEx s hs a5 2 sh5 l5 (by omega)
  obtain ⟨p, q, hp, hq, rfl⟩ := two_of z6 r6
  refine Ev.bind f5 (Ev.bind f6 (Ev.pos (by simp) (Ev.pos (by simp) ?_)))
  have rd2 : rd [(p : Int), (q : Int)] 0 = (p : Int) := rfl
  have rd3 : rd [(p : Int), (q : Int)] 1 = (q : Int) := rfl
  rw [rd2, rd3]
  have hL : p * q ≤ 65025 := Nat.mul_le_mul hp hq
  obtain ⟨L, hL0⟩ : ∃ L, L = p * q := ⟨_, rfl⟩
  rw [← Int.natCast_mul, ← hL0, wrapN _ (by omega)]
  rw [← hL0] at hL
  obtain ⟨y7, a7, sh7, f7, z7, r7, l7, u7, g7, n7⟩ := numsEx s hs a6 L sh6 l6 (by omega)
  obtain ⟨x8, a8, sh8, f8, z8, l8, u8, g8, n8⟩ := takeEx s hs a7 2 sh7 l7 (by omega)
  refine Ev.bind f7 (Ev.bnd f8 ?_)
  have K2 : A + 2 ≤ s.size → E + 2 ≤ s.size → y5 = bytesOf (s.extract (A + 2) C) ∧ p = P ∧ q = Q ∧ y7 = bytesOf (s.extract (C + 2) E) ∧ a8 = E + 2 ∧ sh8 = false := by
    intro h h'
    obtain ⟨_, k2, k3, k4, k5⟩ := K1 h
    have hMN : M = N := by rw [hM0, hN0, k2, k3]
    have hle : C + 2 ≤ s.size := by rw [hE0] at h'; omega
    obtain ⟨e5, p5, q5⟩ := g5 (by omega)
    obtain ⟨e6, p6, q6⟩ := g6 (by omega)
    have ha5 : a5 = C := by omega
    rw [bytes_two s a5 (by omega), ha5] at e6
    injection e6 with e6 e7
    injection e7 with e7
    have ep : p = P := by rw [hP]; exact_mod_cast e6
    have eq' : q = Q := by rw [hQ]; exact_mod_cast e7
    have hE : E = C + 2 + L := by rw [hE0, hL0, ep, eq']
    obtain ⟨e7, p7, q7⟩ := g7 (by omega)
    obtain ⟨_, p8, q8⟩ := g8 (by omega)
    have ha6 : a6 = C + 2 := by omega
    refine ⟨by rw [e5, k4, show A + 2 + M = C by omega], ep, eq', by rw [e7, ha6, ← hE], by omega, by rw [q8, q7, q6, q5, k5]⟩
  have V2 : sh8 = false → A + 2 ≤ s.size ∧ E + 2 ≤ s.size := by
    intro h
    obtain ⟨h7, d8⟩ := unshort u8 n8 h
    obtain ⟨h6, d7⟩ := unshort u7 n7 h7
    obtain ⟨h5, d6⟩ := unshort u6 n6 h6
    obtain ⟨h4, d5⟩ := unshort u5 n5 h5
    have h1 := V1 h4
    obtain ⟨_, k2, k3, k4, _⟩ := K1 h1
    have hMN : M = N := by rw [hM0, hN0, k2, k3]
    obtain ⟨_, p5, _⟩ := g5 d5
    obtain ⟨e6, p6, _⟩ := g6 d6
    have ha5 : a5 = C := by omega
    rw [bytes_two s a5 d6, ha5] at e6
    injection e6 with e6 e7
    injection e7 with e7
    have ep : p = P := by rw [hP]; exact_mod_cast e6
    have eq' : q = Q := by rw [hQ]; exact_mod_cast e7
    have hE : E = C + 2 + L := by rw [hE0, hL0, ep, eq']
    obtain ⟨_, p7, _⟩ := g7 d7
    exact ⟨h1, by omega⟩
  cases sh8 with
  | true => exact Ev.pos rfl (Ev.val (zero (X := True) (fun h => by
      have := (K2 h.h1 h.h5).2.2.2.2.2
      cases this)))
  | false =>
    refine Ev.neg (by simp) ?_
    obtain ⟨hh1, hh5⟩ := V2 rfl
    obtain ⟨k1, k2, k3, _, _⟩ := K1 hh1
    obtain ⟨m1, m2, m3, m4, m5, _⟩ := K2 hh1 hh5
    have hle : C + 2 ≤ s.size := by rw [hE0] at hh5; omega
    have hCA : A + 2 + N = C := hC.symm
    have hNs : N ≤ 243 := by rw [hN0, ← k2, ← k3, ← hM0]; exact hM
    subst m1 m2 m3 m4 m5 k1 k2 k3
    have b1 : (s.extract 5 A).size ≤ 140737488351232 := by rw [ext_size' _ _ _ (by omega)]; omega
    have b2 : (bytesOf (s.extract (A + 2) C)).length ≤ 35184372088832 := by rw [bytesOf_len, ext_size' _ _ _ (by omega)]; omega
    have b3 : (bytesOf (s.extract (C + 2) E)).length ≤ 35184372088832 := by rw [bytesOf_len, ext_size' _ _ _ (by omega)]; omega
    have hst := storeSavedImpl (s.extract 5 A) st rc (bytesOf (s.extract (A + 2) C)) p q (bytesOf (s.extract (C + 2) E)) b1 b2 b3
    refine Ev.bind hst ?_
    unfold storeSaved
    by_cases c6 : savedOk (s.extract 5 A) st rc (bytesOf (s.extract (A + 2) C)) p q (bytesOf (s.extract (C + 2) E)) = true
    · rw [if_pos c6]
      refine Ev.pos rfl (Ev.pos (by show (0 : Int) ≤ ((E + 2 : Nat) : Int); omega) (Ev.pos (by show ((E + 2 : Nat) : Int) ≤ (s.size : Int); omega) ?_))
      by_cases c7 : storeB (s.extract 5 A) st rc (bytesOf (s.extract (A + 2) C)) p q (bytesOf (s.extract (C + 2) E)) = s.extract 0 (E + 2)
      · refine Ev.pos (by rw [c7]; rfl) (Ev.val (congrArg some (beginW_ok ⟨hh1, by omega, cR, hle, hh5, c6, c7⟩).symm))
      · refine Ev.neg (fun h => c7 (by
          rw [ByteArray.toList_eq, ByteArray.toList_eq] at h
          exact ByteArray.ext (Array.toList_inj.1 h))) (Ev.val (zero (X := True) (fun h => c7 h.h7)))
    · rw [if_neg c6]
      exact Ev.neg (by simp) (Ev.val (zero (X := True) (fun h => c6 h.h6)))

theorem eqInt64S (l m : List Int) (hl : l.length ≤ 35184372088832) : Ev (fun k => laws_eqInt64S.f k l m) (decide (l = m)) := by
  unfold laws_eqInt64S.f
  by_cases h : l.length = m.length
  · refine Ev.pos (by omega) ?_
    refine Ev.upto l.length (fun i => ∀ j, j < i → l[j]? = m[j]?) (fun _ => ()) _ (fun k _ i => laws_eqInt64S.l0 k l m i) (fun i hi hp ih => ?_) (fun hp => ?_) (fun j hj => by omega)
    · refine Ev.succ ?_
      simp only [laws_eqInt64S.l0]
      refine Ev.pos (by omega) (Ev.pos (by omega) (Ev.pos (by omega) ?_))
      rw [rd_lt l i (by omega), rd_lt m i (by omega)]
      by_cases e : l[i] = m[i]
      · refine Ev.pos e ?_
        rw [wrap_id (by omega) (by omega)]
        exact ih (fun j hj' => by
          by_cases hji : j < i
          · exact hp j hji
          · obtain rfl : j = i := by omega
            rw [List.getElem?_eq_getElem (by omega), List.getElem?_eq_getElem (by omega), e])
      · refine Ev.neg e (Ev.val ?_)
        rw [eq_comm, Option.some.injEq, decide_eq_false_iff_not]
        rintro rfl
        exact e rfl
    · refine Ev.succ ?_
      simp only [laws_eqInt64S.l0]
      refine Ev.neg (by omega) (Ev.val ?_)
      have : l = m := List.ext_getElem? (fun j => by
        by_cases hjl : j < l.length
        · exact hp j (by omega)
        · rw [List.getElem?_eq_none (by omega), List.getElem?_eq_none (by omega)])
      simp [this]
  · refine Ev.neg (by omega) (Ev.val ?_)
    rw [eq_comm, Option.some.injEq, decide_eq_false_iff_not]
    rintro rfl
    exact h rfl

theorem eqRule (s r : Int) (t : List Int) (s' r' : Int) (t' : List Int) (hl : t.length ≤ 35184372088832) : Ev (fun k => laws_eqRule.f k s r t s' r' t') (decide (s = s' ∧ r = r' ∧ t = t')) := by
  unfold laws_eqRule.f
  by_cases h1 : s = s'
  · refine Ev.pos h1 ?_
    by_cases h2 : r = r'
    · refine Ev.pos h2 (Ev.bind (eqInt64S t t' hl) ?_)
      by_cases h3 : t = t'
      · exact Ev.pos (by simpa using h3) (Ev.val (by simp [h1, h2, h3]))
      · exact Ev.neg (by simpa using h3) (Ev.val (by simp [h3]))
    · exact Ev.neg h2 (Ev.val (by simp [h2]))
  · exact Ev.neg h1 (Ev.val (by simp [h1]))

theorem eqField (s r : Int) (t : List Int) (s' r' : Int) (t' : List Int) (hl : t.length ≤ 35184372088832) : Ev (fun k => laws_eqField.f k s r t s' r' t') (decide (s = s' ∧ r = r' ∧ t = t')) := by
  unfold laws_eqField.f
  exact Ev.cast (Ev.andP (fun _ => Ev.andP (fun _ => Ev.eqs (eqInt64S t t' hl)))) (by simp only [Bool.decide_and])

theorem eqSaved (nm : ByteArray) (s r : Int) (t : List Int) (p q : Int) (l : List Int) (ht : t.length ≤ 35184372088832) (hl : l.length ≤ 35184372088832) : Ev (fun k => laws_eqSaved.f k nm s r t p q l nm s r t p q l) true := by
  unfold laws_eqSaved.f
  exact Ev.pos rfl (Ev.bind (eqRule _ _ _ _ _ _ ht) (Ev.pos (by simp) (Ev.bind (eqField _ _ _ _ _ _ hl) (Ev.pos (by simp) (Ev.now _)))))

theorem markInt64S (l : List Int) (a : Int) (hl : l.length ≤ 35184372088832) (h0 : -1 ≤ a) (h1 : a ≤ 1000000000000) : Ev (fun k => laws_markInt64S.f k l a) (a + l.length, marks a l.length) := by
  unfold laws_markInt64S.f
  refine Ev.congr (fun k => ?_) (Ev.upto l.length (fun _ => True) (fun i => (marks a i ++ l.drop i, a + (i : Int))) (a + l.length, marks a l.length) (fun k s i => laws_markInt64S.l0 k s.1 s.2 i) (fun i hi _ ih => ?_) (fun _ => ?_) trivial)
  · simp [marks]
  · refine Ev.succ ?_
    simp only [laws_markInt64S.l0]
    refine Ev.pos (by rw [List.length_append, marks_length, List.length_drop]; omega) (Ev.pos (by omega) ?_)
    rw [wrap_id (x := (i : Int) + 1) (by omega) (by omega), wrap_id (x := a + (i : Int) + 1) (by omega) (by omega), Int.toNat_natCast, marks_step a l i hi]
    have := ih trivial
    rw [show a + ((i + 1 : Nat) : Int) = a + (i : Int) + 1 by omega] at this
    exact this
  · refine Ev.succ ?_
    simp only [laws_markInt64S.l0]
    have e : marks a l.length ++ l.drop l.length = marks a l.length := by rw [List.drop_length, List.append_nil]
    rw [e]
    exact Ev.neg (by rw [marks_length]; omega) (Ev.now _)

theorem heldInt64S (n : Nat) (a : Int) (hl : n ≤ 35184372088832) (h0 : -1 ≤ a) (h1 : a ≤ 1000000000000) : Ev (fun k => laws_heldInt64S.f k (marks a n) a) (a + n) := by
  unfold laws_heldInt64S.f
  refine Ev.congr (fun k => ?_) (Ev.upto n (fun _ => True) (fun i => a + (i : Int)) (a + n) (fun k s i => laws_heldInt64S.l0 k (marks a n) s i) (fun i hi _ ih => ?_) (fun _ => ?_) trivial)
  · simp
  · refine Ev.succ ?_
    simp only [laws_heldInt64S.l0]
    refine Ev.pos (by rw [marks_length]; omega) (Ev.pos (by omega) (Ev.pos ?_ ?_))
    · rw [rd_lt _ i (by rw [marks_length]; exact hi), marks_get a n i hi]
    · rw [wrap_id (x := (i : Int) + 1) (by omega) (by omega), wrap_id (x := a + (i : Int) + 1) (by omega) (by omega)]
      have := ih trivial
      rw [show a + ((i + 1 : Nat) : Int) = a + (i : Int) + 1 by omega] at this
      exact this
  · refine Ev.succ ?_
    simp only [laws_heldInt64S.l0]
    exact Ev.neg (by rw [marks_length]; omega) (Ev.val rfl)

/-- What LoadSaved answers, of what a text begins with. -/
def loadV (s : ByteArray) (v : ByteArray × Int × Int × List Int × Int × Int × List Int × Int) : ByteArray × Int × Int × List Int × Int × Int × List Int × Bool :=
  if v.2.2.2.2.2.2.2 = 0 then (⟨#[]⟩, 0, 0, [], 0, 0, [], false) else if v.2.2.2.2.2.2.2 = (s.size : Int) then (v.1, v.2.1, v.2.2.1, v.2.2.2.1, v.2.2.2.2.1, v.2.2.2.2.2.1, v.2.2.2.2.2.2.1, true) else (⟨#[]⟩, 0, 0, [], 0, 0, [], false)
theorem ext_le (s : ByteArray) (a b : Nat) : (bytesOf (s.extract a b)).length ≤ s.size := by
  rw [bytesOf_len, ByteArray.size_extract]; omega
theorem beginW_len (s : ByteArray) (A S R C P Q E : Nat) : (beginW s A S R C P Q E).2.2.2.1.length ≤ s.size ∧ (beginW s A S R C P Q E).2.2.2.2.2.2.1.length ≤ s.size := by
  unfold beginW
  split
  · exact ⟨ext_le _ _ _, ext_le _ _ _⟩
  · exact ⟨Nat.zero_le _, Nat.zero_le _⟩
theorem loadV_len (s : ByteArray) (v : ByteArray × Int × Int × List Int × Int × Int × List Int × Int) (h1 : v.2.2.2.1.length ≤ s.size) (h2 : v.2.2.2.2.2.2.1.length ≤ s.size) : (loadV s v).2.2.2.1.length ≤ s.size ∧ (loadV s v).2.2.2.2.2.2.1.length ≤ s.size := by
  unfold loadV
  split
  · exact ⟨Nat.zero_le _, Nat.zero_le _⟩
  · split
    · exact ⟨h1, h2⟩
    · exact ⟨Nat.zero_le _, Nat.zero_le _⟩
/-- What is saved and valid. -/
def SV (x : S68) : Prop := savedOk x.f0 x.f1.f0 x.f1.f1 x.f1.f2 x.f2.f0 x.f2.f1 x.f2.f2 = true
/-- Its bytes. -/
noncomputable def TB (x : S68) : ByteArray := storeB x.f0 x.f1.f0 x.f1.f1 x.f1.f2 x.f2.f0 x.f2.f1 x.f2.f2
noncomputable def TL (x : S68) : List Int := bytesOf (TB x)
noncomputable def catN : List S68 → List Int
  | [] => []
  | x :: l => TL x ++ catN l
theorem catN_append (a b : List S68) : catN (a ++ b) = catN a ++ catN b := by
  induction a with
  | nil => rfl
  | cons x l ih => simp only [List.cons_append, catN, ih, List.append_assoc]
theorem bytesOf_append (a b : ByteArray) : bytesOf (a ++ b) = bytesOf a ++ bytesOf b := by
  unfold bytesOf
  rw [ByteArray.data_append]
  simp
theorem bytesOf_str (xs : List Int) (h : ∀ x ∈ xs, 0 ≤ x ∧ x ≤ 255) : bytesOf (strOfNums xs) = xs := by
  unfold bytesOf strOfNums
  show List.map _ (List.map _ xs) = xs
  rw [List.map_map]
  refine (List.map_congr_left fun x hx => ?_).trans (List.map_id xs)
  have := h x hx
  simp only [Function.comp, id]
  rw [UInt8.toNat_ofNat_of_lt' (by show x.toNat < 256; omega)]
  omega
theorem bytesOf_ext (s : ByteArray) (a b : Nat) : bytesOf (s.extract a b) = ((bytesOf s).drop a).take (b - a) := by
  unfold bytesOf
  rw [Go.Lib.extract_data, List.map_take, List.map_drop]
theorem bytesOf_inj {a b : ByteArray} (h : bytesOf a = bytesOf b) : a = b := by rw [← strOf_bytesOf a, h, strOf_bytesOf]
theorem bn_get (s : ByteArray) (i : Nat) (h : i < s.size) : (bytesOf s)[i]? = some (bn s i : Int) := by
  rw [List.getElem?_eq_getElem (by rw [bytesOf_len]; exact h), bytesOf_get, bt_bn]
theorem mod_id {x : Int} (h0 : 0 ≤ x) (h1 : x ≤ 255) : x % 256 = x := Int.emod_eq_of_lt h0 (by omega)
theorem byL_id (l : List Int) (h : ∀ x ∈ l, 0 ≤ x ∧ x ≤ 255) : byL l = l := by
  unfold byL
  exact (List.map_congr_left fun x hx => mod_id (h x hx).1 (h x hx).2).trans (List.map_id l)
theorem byL_range (l : List Int) : ∀ x ∈ byL l, 0 ≤ x ∧ x ≤ 255 := by
  intro x hx
  obtain ⟨y, _, rfl⟩ := List.mem_map.1 hx
  omega
/-- What is known of what is saved and valid. -/
structure SVF (nm : ByteArray) (s r : Int) (t : List Int) (p q : Int) (l : List Int) : Prop where
  n1 : nm.size ≤ 8
  s1 : 2 ≤ s ∧ s ≤ 3
  r1 : 0 ≤ r ∧ r ≤ 2
  tl : t.length = s.toNat ^ (2 * r.toNat + 1)
  ti : ∀ x ∈ t, 0 ≤ x ∧ x ≤ 2
  p1 : 1 ≤ p ∧ p ≤ 24
  q1 : 1 ≤ q ∧ q ≤ 24
  ll : l.length = p.toNat * q.toNat
  li : ∀ x ∈ l, 0 ≤ x ∧ x ≤ 9
theorem svf {nm : ByteArray} {s r : Int} {t : List Int} {p q : Int} {l : List Int} (h : savedOk nm s r t p q l = true) : SVF nm s r t p q l := by
  unfold savedOk at h
  simp only [Bool.and_eq_true] at h
  obtain ⟨h1, h2, h3⟩ := h
  have h1' := (cd_iff.1 h1).2.2
  unfold validRule at h2
  simp only [Bool.and_eq_true, decide_eq_true_eq] at h2
  obtain ⟨⟨⟨hs, hr⟩, hn⟩, ha⟩ := h2
  unfold validField at h3
  simp only [Bool.and_eq_true, decide_eq_true_eq] at h3
  obtain ⟨⟨⟨hp, hq⟩, hm⟩, hb⟩ := h3
  have ha' := allIn_iff.1 ha
  refine ⟨h1', hs, hr, ?_, fun x hx => ?_, hp, hq, ?_, allIn_iff.1 hb⟩
  · have e1 : s = (s.toNat : Int) := by omega
    rw [show (2 * r + 1).toNat = 2 * r.toNat + 1 by omega, e1, ← Int.natCast_pow] at hn
    have := Int.ofNat.inj hn
    rw [this]
  · have := ha' x hx; omega
  · have e1 : p = (p.toNat : Int) := by omega
    have e2 : q = (q.toNat : Int) := by omega
    rw [e1, e2, ← Int.natCast_mul] at hm
    have := Int.ofNat.inj hm
    rw [this]
/-- Its bytes, as numbers. -/
theorem store_bytes {nm : ByteArray} {s r : Int} {t : List Int} {p q : Int} {l : List Int} (h : SVF nm s r t p q l) : ∃ z : List Int, z.length = 2 ∧ bytesOf (storeB nm s r t p q l) = [67, 69, 76, 49] ++ (nm.size : Int) :: (bytesOf nm ++ s :: r :: (t ++ p :: q :: (l ++ z))) := by
  refine ⟨tailL (chk (strOfNums (storeL nm s r t p q l)) (strOfNums (storeL nm s r t p q l)).size), rfl, ?_⟩
  unfold storeB
  generalize chk (strOfNums (storeL nm s r t p q l)) (strOfNums (storeL nm s r t p q l)).size = c
  have hz : ∀ x ∈ tailL c, 0 ≤ x ∧ x ≤ 255 := by
    intro x hx
    unfold tailL at hx
    simp only [List.mem_cons, List.not_mem_nil, or_false] at hx
    omega
  have hn := h.n1
  have hr0 : ∀ x ∈ storeL nm s r t p q l, 0 ≤ x ∧ x ≤ 255 := by
    intro x hx
    unfold storeL at hx
    simp only [List.mem_append] at hx
    rcases hx with (((((hx | hx) | hx) | hx) | hx) | hx) | hx
    · simp only [List.mem_cons, List.not_mem_nil, or_false] at hx; omega
    · simp only [List.mem_cons, List.not_mem_nil, or_false] at hx; omega
    · exact bytesOf_range _ x hx
    · simp only [List.mem_cons, List.not_mem_nil, or_false] at hx; omega
    · exact byL_range _ x hx
    · simp only [List.mem_cons, List.not_mem_nil, or_false] at hx; omega
    · exact byL_range _ x hx
  rw [bytesOf_str _ (fun x hx => by
    rcases List.mem_append.1 hx with hx | hx
    · exact hr0 x hx
    · exact hz x hx)]
  have h1 := h.s1
  have h2 := h.r1
  have h3 := h.p1
  have h4 := h.q1
  unfold storeL
  rw [byL_id t (fun x hx => by have := h.ti x hx; omega), byL_id l (fun x hx => by have := h.li x hx; omega), mod_id (x := (nm.size : Int)) (by omega) (by omega), mod_id (x := s) (by omega) (by omega), mod_id (x := r) (by omega) (by omega), mod_id (x := p) (by omega) (by omega), mod_id (x := q) (by omega) (by omega)]
  simp
theorem at_len (X Z : List Int) (y : Int) : (X ++ y :: Z)[X.length]? = some y := by simp
theorem idx {u : ByteArray} {X Z : List Int} {y : Int} (i : Nat) (hX : X.length = i) (he : bytesOf u = X ++ y :: Z) : (bn u i : Int) = y := by
  subst hX
  have hl := bytesOf_len u
  rw [he] at hl
  simp only [List.length_append, List.length_cons] at hl
  have h := bn_get u X.length (by omega)
  rw [he, at_len] at h
  exact (Option.some.inj h).symm
theorem cutL {X Y Z : List Int} (a b : Nat) (hX : X.length = a) (hY : a + Y.length = b) : ((X ++ (Y ++ Z)).drop a).take (b - a) = Y := by
  rw [List.drop_left' hX, show b - a = Y.length by omega, List.take_left]
/-- The places in what begins with what is saved. -/
theorem storeOffs {nm : ByteArray} {s r : Int} {t : List Int} {p q : Int} {l : List Int} (h : SVF nm s r t p q l) {u : ByteArray} {R : List Int} (hu : bytesOf u = bytesOf (storeB nm s r t p q l) ++ R) :
    ∃ A N C E : Nat, Offs u A s.toNat r.toNat N C p.toNat q.toNat E ∧ E + 2 = (storeB nm s r t p q l).size ∧ C + 2 ≤ E ∧ A + 2 ≤ C ∧ u.extract 5 A = nm ∧ bytesOf (u.extract (A + 2) C) = t ∧ bytesOf (u.extract (C + 2) E) = l := by
  obtain ⟨z, hz, he⟩ := store_bytes h
  rw [he] at hu
  have hb := bytesOf_len nm
  have hsz := storeB_size nm s r t p q l
  have htl := h.tl
  have hll := h.ll
  have h1 := h.s1
  have h2 := h.r1
  have h3 := h.p1
  have h4 := h.q1
  have i4 : (bn u 4 : Int) = (nm.size : Int) := idx (X := [67, 69, 76, 49]) 4 rfl (by rw [hu]; simp; rfl)
  have iA : (bn u (5 + nm.size) : Int) = s := idx (X := [67, 69, 76, 49] ++ (nm.size : Int) :: bytesOf nm) (5 + nm.size) (by simp [hb]; omega) (by rw [hu]; simp; rfl)
  have iA1 : (bn u (5 + nm.size + 1) : Int) = r := idx (X := [67, 69, 76, 49] ++ (nm.size : Int) :: (bytesOf nm ++ [s])) (5 + nm.size + 1) (by simp [hb]; omega) (by rw [hu]; simp; rfl)
  have iC : (bn u (5 + nm.size + 2 + t.length) : Int) = p := idx (X := [67, 69, 76, 49] ++ (nm.size : Int) :: (bytesOf nm ++ s :: r :: t)) (5 + nm.size + 2 + t.length) (by simp [hb]; omega) (by rw [hu]; simp; rfl)
  have iC1 : (bn u (5 + nm.size + 2 + t.length + 1) : Int) = q := idx (X := [67, 69, 76, 49] ++ (nm.size : Int) :: (bytesOf nm ++ s :: r :: (t ++ [p]))) (5 + nm.size + 2 + t.length + 1) (by simp [hb]; omega) (by rw [hu]; simp; rfl)
  refine ⟨5 + nm.size, s.toNat ^ (2 * r.toNat + 1), 5 + nm.size + 2 + t.length, 5 + nm.size + 2 + t.length + 2 + l.length, ⟨by omega, by omega, by omega, rfl, by rw [htl], by omega, by omega, by rw [hll]⟩, by omega, by omega, by omega, ?_, ?_, ?_⟩
  · apply bytesOf_inj
    rw [bytesOf_ext, hu]
    exact Eq.trans (by simp) (cutL (X := [67, 69, 76, 49, (nm.size : Int)]) (Y := bytesOf nm) (Z := s :: r :: (t ++ p :: q :: (l ++ (z ++ R)))) 5 (5 + nm.size) rfl (by rw [hb]))
  · rw [bytesOf_ext, hu]
    exact Eq.trans (by simp) (cutL (X := [67, 69, 76, 49] ++ (nm.size : Int) :: (bytesOf nm ++ [s, r])) (Y := t) (Z := p :: q :: (l ++ (z ++ R))) (5 + nm.size + 2) (5 + nm.size + 2 + t.length) (by simp [hb]; omega) rfl)
  · rw [bytesOf_ext, hu]
    exact Eq.trans (by simp) (cutL (X := [67, 69, 76, 49] ++ (nm.size : Int) :: (bytesOf nm ++ s :: r :: (t ++ [p, q]))) (Y := l) (Z := z ++ R) (5 + nm.size + 2 + t.length + 2) (5 + nm.size + 2 + t.length + 2 + l.length) (by simp [hb]; omega) rfl)
theorem TL_len (x : S68) : (TL x).length = (TB x).size := bytesOf_len _
/-- What is stored is read again. -/
theorem takenStore (x : S68) (hx : SV x) (u : ByteArray) (R : List Int) (hu : u.size ≤ 1048576) (he : bytesOf u = TL x ++ R) : Ev (fun k => impl_taken.f k u) (x.f0, x.f1.f0, x.f1.f1, x.f1.f2, x.f2.f0, x.f2.f1, x.f2.f2, ((TB x).size : Int)) := by
  have hf := svf hx
  obtain ⟨A, N, C, E, ho, hE, hCE, hAC, e1, e2, e3⟩ := storeOffs hf he
  have hsz : (TB x).size + R.length = u.size := by
    have := congrArg List.length he
    rw [bytesOf_len, List.length_append, TL_len] at this
    omega
  have hE' : E + 2 = (TB x).size := hE
  have h1 := hf.s1
  have h2 := hf.r1
  have h3 := hf.p1
  have h4 := hf.q1
  have z1 : (x.f1.f0.toNat : Int) = x.f1.f0 := by omega
  have z2 : (x.f1.f1.toNat : Int) = x.f1.f1 := by omega
  have z3 : (x.f2.f0.toNat : Int) = x.f2.f0 := by omega
  have z4 : (x.f2.f1.toNat : Int) = x.f2.f1 := by omega
  have hT := takenImpl u hu ho
  rw [beginW_ok ⟨by omega, by omega, by omega, by omega, by omega, by rw [e1, e2, e3, z1, z2, z3, z4]; exact hx, by
    rw [e1, e2, e3, z1, z2, z3, z4]
    apply bytesOf_inj
    rw [bytesOf_ext, he, List.drop_zero, hE', Nat.sub_zero, ← TL_len, List.take_left]
    rfl⟩, e1, e2, e3, z1, z2, z3, z4, hE'] at hT
  exact hT
theorem takenNo {u : ByteArray} (hu : u.size ≤ 1048576) (h : ∀ A S R N C P Q E, Offs u A S R N C P Q E → ¬ BegOk u A S R C P Q E) : Ev (fun k => impl_taken.f k u) (⟨#[]⟩, 0, 0, [], 0, 0, [], 0) := by
  obtain ⟨A, S, R, N, C, P, Q, E, ho⟩ := offs_ex u
  have hT := takenImpl u hu ho
  rw [beginW_no (h _ _ _ _ _ _ _ _ ho)] at hT
  exact hT
/-- A part of what is stored is nothing. -/
theorem takenCut (x : S68) (hx : SV x) (u : ByteArray) (hu : u.size < (TB x).size) (hs : u.size ≤ 1048576) (he : bytesOf u = (TL x).take u.size) : Ev (fun k => impl_taken.f k u) (⟨#[]⟩, 0, 0, [], 0, 0, [], 0) := by
  refine takenNo hs fun A' S' R' N' C' P' Q' E' ho' hok => ?_
  obtain ⟨A, N, C, E, ho, hE, hCE, hAC, _, _, _⟩ := storeOffs (svf hx) (u := TB x) (R := []) (List.append_nil _).symm
  have hE' : E + 2 = (TB x).size := hE
  have hb : ∀ i, i < u.size → bn u i = bn (TB x) i := by
    intro i hi
    have a1 := bn_get u i hi
    have a2 := bn_get (TB x) i (by omega)
    rw [he, List.getElem?_take, if_pos hi] at a1
    have a3 : (TL x)[i]? = some (bn (TB x) i : Int) := a2
    rw [a3] at a1
    have := Option.some.inj a1
    omega
  obtain ⟨hA, hS, hR, hN, hC, hP, hQ, hE0⟩ := ho
  obtain ⟨hA', hS', hR', hN', hC', hP', hQ', hE0'⟩ := ho'
  have k1 := hok.h1
  have k4 := hok.h4
  have k5 := hok.h5
  have eA : A' = A := by rw [hA', hb 4 (by omega), ← hA]
  subst eA
  have eS : S' = x.f1.f0.toNat := by rw [hS', hb A' (by omega), ← hS]
  have eR : R' = x.f1.f1.toNat := by rw [hR', hb (A' + 1) (by omega), ← hR]
  have eN : N' = N := by rw [hN', eS, eR, ← hN]
  have eC : C' = C := by rw [hC', eN, ← hC]
  subst eC
  have eP : P' = x.f2.f0.toNat := by rw [hP', hb C' (by omega), ← hP]
  have eQ : Q' = x.f2.f1.toNat := by rw [hQ', hb (C' + 1) (by omega), ← hQ]
  have eE : E' = E := by rw [hE0', eP, eQ, ← hE0]
  omega
/-- What is taken from a text is something valid that it begins with, or nothing. -/
theorem takenAny (u : ByteArray) (hu : u.size ≤ 1048576) : (∃ x : S68, SV x ∧ Ev (fun k => impl_taken.f k u) (x.f0, x.f1.f0, x.f1.f1, x.f1.f2, x.f2.f0, x.f2.f1, x.f2.f2, ((TB x).size : Int)) ∧ (TB x).size ≤ u.size ∧ 0 < (TB x).size ∧ (bytesOf u).take (TB x).size = TL x) ∨ Ev (fun k => impl_taken.f k u) (⟨#[]⟩, 0, 0, [], 0, 0, [], 0) := by
  obtain ⟨A, S, R, N, C, P, Q, E, ho⟩ := offs_ex u
  have hT := takenImpl u hu ho
  by_cases hok : BegOk u A S R C P Q E
  · left
    rw [beginW_ok hok] at hT
    have h5 := hok.h5
    have hz : (storeB (u.extract 5 A) S R (bytesOf (u.extract (A + 2) C)) P Q (bytesOf (u.extract (C + 2) E))).size = E + 2 := by
      rw [hok.h7, ext_size' _ _ _ h5]; omega
    refine ⟨⟨u.extract 5 A, ⟨S, R, bytesOf (u.extract (A + 2) C)⟩, ⟨P, Q, bytesOf (u.extract (C + 2) E)⟩⟩, hok.h6, ?_, ?_, ?_, ?_⟩
    · unfold TB
      rw [hz]
      exact hT
    · unfold TB; rw [hz]; exact h5
    · unfold TB; rw [hz]; omega
    · unfold TL TB
      rw [hz, hok.h7, bytesOf_ext, List.drop_zero, Nat.sub_zero]
  · right
    rw [beginW_no hok] at hT
    exact hT

theorem tb_small {x : S68} (hx : SV x) : 0 < (TB x).size ∧ (TB x).size ≤ 1000 := by
  have h := svf hx
  have hz : (TB x).size = x.f0.size + x.f1.f2.length + x.f2.f2.length + 11 := storeB_size _ _ _ _ _ _ _
  have h0 := h.n1
  have h1 := h.s1
  have h2 := h.r1
  have h3 := h.p1
  have h4 := h.q1
  have t1 : x.f1.f2.length ≤ 243 := by rw [h.tl]; exact pow_small (by omega) (by omega)
  have t2 : x.f2.f2.length ≤ 24 * 24 := by rw [h.ll]; exact Nat.mul_le_mul (by omega) (by omega)
  omega
theorem catN_len (L : List S68) (h : ∀ x ∈ L, SV x) : (catN L).length ≤ 1000 * L.length := by
  induction L with
  | nil => simp [catN]
  | cons x l ih =>
    have h1 := tb_small (h x (.head _))
    have h2 := ih (fun y hy => h y (.tail _ hy))
    simp only [catN, List.length_append, List.length_cons, TL_len]
    omega
theorem ext_bytes (s : ByteArray) (a : Nat) : bytesOf (s.extract a s.size) = (bytesOf s).drop a := by
  rw [bytesOf_ext, List.take_of_length_le]
  rw [List.length_drop, bytesOf_len]
  exact Nat.le_refl _
theorem ext_sz (s : ByteArray) (a : Nat) : (s.extract a s.size).size = s.size - a := by rw [ByteArray.size_extract]; omega
theorem recStep {s : ByteArray} (hs : s.size ≤ 1048576) {x : S68} (hx : SV x) {acc : List S68} (ha : acc.length < 8) {a : Nat} {R : List Int} (he : (bytesOf s).drop a = TL x ++ R) {r : List S68 × Int × Bool} (h : Ev (fun k => impl_RecoverAll.l0 k s (acc ++ [x]) ((a + (TB x).size : Nat) : Int)) r) : Ev (fun k => impl_RecoverAll.l0 k s acc (a : Int)) r := by
  have hz := tb_small hx
  have hl := congrArg List.length he
  rw [List.length_drop, List.length_append, TL_len, bytesOf_len] at hl
  have ht := takenStore x hx (s.extract a s.size) R (by rw [ext_sz]; omega) (by rw [ext_bytes, he])
  refine Ev.succ ?_
  simp only [impl_RecoverAll.l0]
  rw [Int.toNat_natCast]
  refine Ev.pos (by omega) (Ev.pos (by omega) (Ev.pos (by omega) (Ev.bind ht (Ev.neg (by show ¬ ((TB x).size : Int) = 0; omega) (Ev.pos (by omega) ?_)))))
  rw [wrapTo (x := (a : Int) + ((TB x).size : Int)) (y := ((a + (TB x).size : Nat) : Int)) (by omega) (by omega) (by omega)]
  exact h
theorem recStop {s : ByteArray} {acc : List S68} (ha : acc.length < 8) {a : Nat} (hle : a ≤ s.size) (ht : Ev (fun k => impl_taken.f k (s.extract a s.size)) (⟨#[]⟩, 0, 0, [], 0, 0, [], 0)) : Ev (fun k => impl_RecoverAll.l0 k s acc (a : Int)) (acc, (a : Int), true) := by
  refine Ev.succ ?_
  simp only [impl_RecoverAll.l0]
  rw [Int.toNat_natCast]
  exact Ev.pos (by omega) (Ev.pos (by omega) (Ev.pos (by omega) (Ev.bind ht (Ev.pos rfl (Ev.now _)))))
theorem recFull {s : ByteArray} {acc : List S68} (ha : acc.length = 8) (a : Nat) : Ev (fun k => impl_RecoverAll.l0 k s acc (a : Int)) (acc, (a : Int), true) := by
  refine Ev.succ ?_
  simp only [impl_RecoverAll.l0]
  exact Ev.neg (by omega) (Ev.now _)
theorem recRun {s : ByteArray} (hs : s.size ≤ 1048576) {r : List S68 × Int × Bool} (L : List S68) : ∀ (acc : List S68) (a : Nat) (R : List Int), (∀ x ∈ L, SV x) → acc.length + L.length ≤ 8 → (bytesOf s).drop a = catN L ++ R → Ev (fun k => impl_RecoverAll.l0 k s (acc ++ L) ((a + (catN L).length : Nat) : Int)) r → Ev (fun k => impl_RecoverAll.l0 k s acc (a : Int)) r := by
  induction L with
  | nil => intro acc a R _ _ _ h; simpa [catN] using h
  | cons x l ih =>
    intro acc a R hv hn he h
    simp only [List.length_cons] at hn
    simp only [catN] at he h
    rw [List.append_assoc] at he
    refine recStep hs (hv x (.head _)) (by omega) he (ih (acc ++ [x]) (a + (TB x).size) R (fun y hy => hv y (.tail _ hy)) (by simp; omega) ?_ ?_)
    · rw [← List.drop_drop, he, ← TL_len, List.drop_left]
    · rw [List.append_assoc, List.singleton_append]
      rw [List.length_append, TL_len] at h
      rw [show a + (TB x).size + (catN l).length = a + ((TB x).size + (catN l).length) by omega]
      exact h
theorem recAny {s : ByteArray} (hs : s.size ≤ 1048576) (d : Nat) : ∀ (acc : List S68) (a : Nat), acc.length + d = 8 → a ≤ s.size → ∃ (L : List S68) (o : Nat), Ev (fun k => impl_RecoverAll.l0 k s acc (a : Int)) (acc ++ L, (o : Int), true) ∧ a ≤ o ∧ o ≤ s.size ∧ (∀ x ∈ L, SV x) ∧ ((bytesOf s).drop a).take (o - a) = catN L ∧ L.length ≤ d := by
  induction d with
  | zero =>
    intro acc a hn ha
    exact ⟨[], a, by rw [List.append_nil]; exact recFull (by omega) a, Nat.le_refl _, ha, by simp, by simp [catN], Nat.le_refl _⟩
  | succ d ih =>
    intro acc a hn ha
    rcases takenAny (s.extract a s.size) (by rw [ext_sz]; omega) with ⟨x, hx, ht, hz, hz0, hb⟩ | ht
    · rw [ext_sz] at hz
      rw [ext_bytes] at hb
      have he : (bytesOf s).drop a = TL x ++ (bytesOf s).drop (a + (TB x).size) := by
        rw [← List.drop_drop, ← hb, List.take_append_drop]
      obtain ⟨L, o, h1, h2, h3, h4, h5, h6⟩ := ih (acc ++ [x]) (a + (TB x).size) (by simp; omega) (by omega)
      refine ⟨x :: L, o, recStep hs hx (by omega) he ?_, by omega, h3, fun y hy => ?_, ?_, by simp; omega⟩
      · rw [List.append_assoc, List.singleton_append] at h1; exact h1
      · rcases List.mem_cons.1 hy with rfl | hy
        · exact hx
        · exact h4 y hy
      · simp only [catN]
        rw [he, List.take_append, ← h5, List.take_of_length_le (by rw [TL_len]; omega), TL_len]
        congr 2
        omega
    · exact ⟨[], a, by rw [List.append_nil]; exact recStop (by omega) ha ht, Nat.le_refl _, ha, by simp, by simp [catN], Nat.zero_le _⟩
theorem rd68 (l : List S68) (i : Nat) (h : i < l.length) : rd_T68 l (i : Int) = l[i] := by
  unfold rd_T68; rw [Int.toNat_natCast, List.getD_eq_getElem?_getD, List.getElem?_eq_getElem h]; rfl
theorem sv_bounds {x : S68} (hx : SV x) : x.f0.size ≤ 1000 ∧ x.f1.f2.length ≤ 1000 ∧ x.f2.f2.length ≤ 1000 := by
  have h := tb_small hx
  have hz : (TB x).size = x.f0.size + x.f1.f2.length + x.f2.f2.length + 11 := storeB_size _ _ _ _ _ _ _
  omega
theorem storeImplX {x : S68} (hx : SV x) : Ev (fun k => impl_StoreSaved.f k x.f0 x.f1.f0 x.f1.f1 x.f1.f2 x.f2.f0 x.f2.f1 x.f2.f2) (TB x, true) := by
  have h := sv_bounds hx
  have := storeSavedImpl x.f0 x.f1.f0 x.f1.f1 x.f1.f2 x.f2.f0 x.f2.f1 x.f2.f2 (by omega) (by omega) (by omega)
  unfold storeSaved at this
  have hx' : savedOk x.f0 x.f1.f0 x.f1.f1 x.f1.f2 x.f2.f0 x.f2.f1 x.f2.f2 = true := hx
  rw [if_pos hx'] at this
  exact this
theorem markRun (d : Nat) : ∀ (m : Nat) (x : ByteArray), m < 10 ^ d → x.size + d ≤ 100000 → m ≤ 1000000000 → ∃ t, Ev (fun k => laws_markText.l0 k (m : Int) x) t := by
  induction d with
  | zero =>
    intro m x hm hx _
    obtain rfl : m = 0 := by omega
    refine ⟨(⟨#[109]⟩ : ByteArray) ++ x, Ev.succ ?_⟩
    simp only [laws_markText.l0]
    exact Ev.neg (by omega) (Ev.pos (by omega) (Ev.now _))
  | succ d ih =>
    intro m x hm hx hb
    by_cases c : m = 0
    · subst c
      refine ⟨(⟨#[109]⟩ : ByteArray) ++ x, Ev.succ ?_⟩
      simp only [laws_markText.l0]
      exact Ev.neg (by omega) (Ev.pos (by omega) (Ev.now _))
    · have e2 : Int.tdiv (m : Int) 10 = ((m / 10 : Nat) : Int) := by rw [Int.tdiv_eq_ediv_of_nonneg (by omega)]; omega
      have hsz : ∀ a : Int, (strOfNums ([a] : List Int)).size = 1 := fun a => by rw [str_size]; rfl
      obtain ⟨t, ht⟩ := ih (m / 10) (strOfNums ([(wrap64 (48 + (Int.tmod (m : Int) 10))) % 256] : List Int) ++ x) (by rw [Nat.pow_succ] at hm; omega) (by rw [ByteArray.size_append, hsz]; omega) (by omega)
      refine ⟨t, Ev.succ ?_⟩
      simp only [laws_markText.l0]
      rw [e2, wrap_id (x := ((m / 10 : Nat) : Int)) (by omega) (by omega)]
      exact Ev.pos (by omega) (Ev.bnd rfl (Ev.pos (by rw [hsz]; omega) ht))
theorem markEx (n : Nat) (h1 : n ≤ 100000000) : ∃ t, Ev (fun k => laws_markText.f k (n : Int)) t := by
  by_cases c : n = 0
  · subst c
    exact ⟨_, Ev.pos (by omega) (Ev.now _)⟩
  · obtain ⟨t, ht⟩ := markRun 9 n ⟨#[]⟩ (by omega) (by show 0 + 9 ≤ _; omega) (by omega)
    exact ⟨t, Ev.neg (by omega) ht⟩
noncomputable def mkT (n : Nat) : ByteArray := @dite _ (∃ t, Ev (fun k => laws_markText.f k (n : Int)) t) (Classical.propDecidable _) (fun h => h.choose) (fun _ => ⟨#[]⟩)
theorem mkT_ev (n : Nat) (h1 : n ≤ 100000000) : Ev (fun k => laws_markText.f k (n : Int)) (mkT n) := by
  have h := markEx n h1
  unfold mkT
  rw [dif_pos h]
  exact h.choose_spec

theorem beginAny (u : ByteArray) (hu : u.size ≤ 1048576) : (∃ x : S68, SV x ∧ Ev (fun k => spec_l07Begin.f k u) (x.f0, x.f1.f0, x.f1.f1, x.f1.f2, x.f2.f0, x.f2.f1, x.f2.f2, ((TB x).size : Int)) ∧ Ev (fun k => impl_taken.f k u) (x.f0, x.f1.f0, x.f1.f1, x.f1.f2, x.f2.f0, x.f2.f1, x.f2.f2, ((TB x).size : Int)) ∧ (TB x).size ≤ u.size ∧ 0 < (TB x).size) ∨ (Ev (fun k => spec_l07Begin.f k u) (⟨#[]⟩, 0, 0, [], 0, 0, [], 0) ∧ Ev (fun k => impl_taken.f k u) (⟨#[]⟩, 0, 0, [], 0, 0, [], 0)) := by
  obtain ⟨A, S, R, N, C, P, Q, E, ho⟩ := offs_ex u
  have hT := takenImpl u hu ho
  have hS := beginSpec u hu ho
  rcases takenAny u hu with ⟨x, hx, ht, h1, h2, _⟩ | ht
  · have e := Ev.uniq hT ht
    rw [e] at hS
    exact .inl ⟨x, hx, hS, ht, h1, h2⟩
  · have e := Ev.uniq hT ht
    rw [e] at hS
    exact .inr ⟨hS, ht⟩
theorem recBoth {s : ByteArray} (hs : s.size ≤ 1048576) (d : Nat) : ∀ (acc : List S68) (a : Nat), acc.length + d = 8 → a ≤ s.size → ∃ (L : List S68) (o : Nat), Ev (fun k => spec_RecoverAll.l0 k s acc (a : Int)) (acc ++ L, (o : Int), true) ∧ Ev (fun k => impl_RecoverAll.l0 k s acc (a : Int)) (acc ++ L, (o : Int), true) ∧ o ≤ s.size ∧ (∀ x ∈ L, SV x) ∧ L.length ≤ d := by
  induction d with
  | zero =>
    intro acc a hn ha
    refine ⟨[], a, ?_, by rw [List.append_nil]; exact recFull (by omega) a, ha, by simp, Nat.le_refl _⟩
    rw [List.append_nil]
    refine Ev.succ ?_
    simp only [spec_RecoverAll.l0]
    exact Ev.neg (by omega) (Ev.now _)
  | succ d ih =>
    intro acc a hn ha
    rcases beginAny (s.extract a s.size) (by rw [ext_sz]; omega) with ⟨x, hx, hb, ht, hz, hz0⟩ | ⟨hb, ht⟩
    · rw [ext_sz] at hz
      obtain ⟨L, o, h1, h2, h3, h4, h5⟩ := ih (acc ++ [x]) (a + (TB x).size) (by simp; omega) (by omega)
      rw [List.append_assoc, List.singleton_append] at h1 h2
      refine ⟨x :: L, o, Ev.succ ?_, Ev.succ ?_, h3, fun y hy => ?_, by simp; omega⟩
      · simp only [spec_RecoverAll.l0]
        rw [Int.toNat_natCast]
        refine Ev.pos (by omega) (Ev.pos (by omega) (Ev.pos (by omega) (Ev.bind hb (Ev.neg (by show ¬ ((TB x).size : Int) = 0; omega) (Ev.pos (by omega) ?_)))))
        rw [wrapTo (x := (a : Int) + ((TB x).size : Int)) (y := ((a + (TB x).size : Nat) : Int)) (by omega) (by omega) (by omega)]
        exact h1
      · simp only [impl_RecoverAll.l0]
        rw [Int.toNat_natCast]
        refine Ev.pos (by omega) (Ev.pos (by omega) (Ev.pos (by omega) (Ev.bind ht (Ev.neg (by show ¬ ((TB x).size : Int) = 0; omega) (Ev.pos (by omega) ?_)))))
        rw [wrapTo (x := (a : Int) + ((TB x).size : Int)) (y := ((a + (TB x).size : Nat) : Int)) (by omega) (by omega) (by omega)]
        exact h2
      · rcases List.mem_cons.1 hy with rfl | hy
        · exact hx
        · exact h4 y hy
    · refine ⟨[], a, ?_, by rw [List.append_nil]; exact recStop (by omega) ha ht, ha, by simp, Nat.zero_le _⟩
      rw [List.append_nil]
      refine Ev.succ ?_
      simp only [spec_RecoverAll.l0]
      rw [Int.toNat_natCast]
      exact Ev.pos (by omega) (Ev.pos (by omega) (Ev.pos (by omega) (Ev.bind hb (Ev.pos rfl (Ev.now _)))))
theorem eqSaved68 (l : List S68) (hl : l.length ≤ 8) (hs : ∀ x ∈ l, SV x) : Ev (fun k => laws_eqSavedS.f k l l) true := by
  unfold laws_eqSavedS.f
  refine Ev.pos rfl ?_
  refine Ev.upto l.length (fun _ => True) (fun _ => ()) true (fun k _ i => laws_eqSavedS.l0 k l l i) (fun i hi _ ih => ?_) (fun _ => ?_) trivial
  · refine Ev.succ ?_
    simp only [laws_eqSavedS.l0]
    have hx := sv_bounds (hs l[i] (List.getElem_mem hi))
    have ih' := ih trivial
    rw [rd68 l i hi, wrap_id (x := (i : Int) + 1) (by omega) (by omega)]
    exact Ev.pos (by omega) (Ev.pos (by omega) (Ev.pos (by omega) (Ev.bind (eqSaved _ _ _ _ _ _ _ (by omega) (by omega)) (Ev.pos rfl ih'))))
  · refine Ev.succ ?_
    simp only [laws_eqSavedS.l0]
    exact Ev.neg (by omega) (Ev.now _)
theorem wS (n : Nat) (h : n ≤ 1000000) : wrap64 ((n : Int) + 1) = ((n + 1 : Nat) : Int) := wrapTo (by omega) (by omega) (by omega)
theorem markN (l : List Int) (a : Nat) (hl : l.length ≤ 1000) (ha : a ≤ 1000000) : Ev (fun k => laws_markInt64S.f k l (a : Int)) (((a + l.length : Nat) : Int), marks (a : Int) l.length) := by
  have h := markInt64S l a (by omega) (by omega) (by omega)
  rw [← Int.natCast_add] at h
  exact h
theorem heldN (n a : Nat) (hl : n ≤ 1000) (ha : a ≤ 1000000) : Ev (fun k => laws_heldInt64S.f k (marks (a : Int) n) (a : Int)) ((a + n : Nat) : Int) := by
  have h := heldInt64S n a (by omega) (by omega) (by omega)
  rw [← Int.natCast_add] at h
  exact h
/-- What a mark makes of one that is saved, and the number behind it. -/
noncomputable def mk1 (a : Nat) (x : S68) : S68 := ⟨mkT a, ⟨((a + 1 : Nat) : Int), ((a + 1 + 1 : Nat) : Int), marks ((a + 1 + 1 + 1 : Nat) : Int) x.f1.f2.length⟩, ⟨((a + 1 + 1 + 1 + x.f1.f2.length : Nat) : Int), ((a + 1 + 1 + 1 + x.f1.f2.length + 1 : Nat) : Int), marks ((a + 1 + 1 + 1 + x.f1.f2.length + 1 + 1 : Nat) : Int) x.f2.f2.length⟩⟩
def nx1 (a : Nat) (x : S68) : Nat := a + 1 + 1 + 1 + x.f1.f2.length + 1 + 1 + x.f2.f2.length
noncomputable def mkS : Nat → List S68 → List S68
  | _, [] => []
  | a, x :: l => mk1 a x :: mkS (nx1 a x) l
def nxS : Nat → List S68 → Nat
  | a, [] => a
  | a, x :: l => nxS (nx1 a x) l
theorem nx1_le (a : Nat) (x : S68) (h3 : x.f1.f2.length ≤ 1000) (h6 : x.f2.f2.length ≤ 1000) : nx1 a x ≤ a + 2100 := by unfold nx1; omega
theorem mkS_len (l : List S68) : ∀ a, (mkS a l).length = l.length := by
  induction l with
  | nil => intro a; rfl
  | cons x l ih => intro a; simp only [mkS, List.length_cons, ih]
theorem rdMid (p : List S68) (x : S68) (l : List S68) : rd_T68 (p ++ x :: l) (p.length : Int) = x := by
  rw [rd68 (p ++ x :: l) p.length (by simp), List.getElem_append_right (Nat.le_refl _)]
  simp
theorem lt_mid (p : List S68) (x : S68) (l : List S68) : ((p.length : Nat) : Int) < ((p ++ x :: l).length : Int) := by
  rw [List.length_append, List.length_cons]; omega
theorem nat0 (n : Nat) : (0 : Int) ≤ (n : Int) := Int.natCast_nonneg n
theorem not_neg (n : Nat) : ¬ ((n : Nat) : Int) < 0 := by omega
theorem markOne (p : List S68) (x : S68) (l : List S68) (a : Nat) (hp : p.length ≤ 8) (ha : a ≤ 100000) (h3 : x.f1.f2.length ≤ 1000) (h6 : x.f2.f2.length ≤ 1000) {r : Int × List S68} (h : Ev (fun k => laws_markSavedS.l0 k (p ++ mk1 a x :: l) ((nx1 a x : Nat) : Int) ((p.length + 1 : Nat) : Int)) r) : Ev (fun k => laws_markSavedS.l0 k (p ++ x :: l) (a : Int) (p.length : Int)) r := by
  have b0 : a ≤ 1000000 := by omega
  have b1 : a + 1 ≤ 1000000 := by omega
  have b2 : a + 1 + 1 ≤ 1000000 := by omega
  have b3 : a + 1 + 1 + 1 ≤ 1000000 := by omega
  have b4 : a + 1 + 1 + 1 + x.f1.f2.length ≤ 1000000 := by omega
  have b5 : a + 1 + 1 + 1 + x.f1.f2.length + 1 ≤ 1000000 := by omega
  have b6 : a + 1 + 1 + 1 + x.f1.f2.length + 1 + 1 ≤ 1000000 := by omega
  have bp : p.length ≤ 1000000 := by omega
  have bt : a ≤ 100000000 := by omega
  have m3 := markN x.f1.f2 (a + 1 + 1 + 1) h3 b3
  have m6 := markN x.f2.f2 (a + 1 + 1 + 1 + x.f1.f2.length + 1 + 1) h6 b6
  refine Ev.succ ?_
  simp only [laws_markSavedS.l0]
  rw [rdMid, wS a b0, wS (a + 1) b1, wS (a + 1 + 1) b2, Int.toNat_natCast, wS p.length bp]
  refine Ev.pos (lt_mid p x l) (Ev.pos (nat0 _) (Ev.bind (mkT_ev a bt) (Ev.bind m3 ?_)))
  show Ev (fun k => (laws_markInt64S.f k x.f2.f2 (wrap64 (wrap64 (((a + 1 + 1 + 1 + x.f1.f2.length : Nat) : Int) + 1) + 1))).bind fun q => laws_markSavedS.l0 k ((p ++ x :: l).set p.length (⟨mkT a, (⟨((a + 1 : Nat) : Int), ((a + 1 + 1 : Nat) : Int), marks ((a + 1 + 1 + 1 : Nat) : Int) x.f1.f2.length⟩ : S65), (⟨((a + 1 + 1 + 1 + x.f1.f2.length : Nat) : Int), wrap64 (((a + 1 + 1 + 1 + x.f1.f2.length : Nat) : Int) + 1), q.2⟩ : S66)⟩ : S68)) q.1 ((p.length + 1 : Nat) : Int)) r
  rw [wS (a + 1 + 1 + 1 + x.f1.f2.length) b4, wS (a + 1 + 1 + 1 + x.f1.f2.length + 1) b5]
  refine Ev.bind m6 ?_
  rw [List.set_append_right _ _ (Nat.le_refl _), Nat.sub_self, List.set_cons_zero]
  exact h
theorem heldOne (p : List S68) (x : S68) (l : List S68) (a : Nat) (hp : p.length ≤ 8) (ha : a ≤ 100000) (h3 : x.f1.f2.length ≤ 1000) (h6 : x.f2.f2.length ≤ 1000) {r : Int} (h : Ev (fun k => laws_heldSavedS.l0 k (p ++ mk1 a x :: l) ((nx1 a x : Nat) : Int) ((p.length + 1 : Nat) : Int)) r) : Ev (fun k => laws_heldSavedS.l0 k (p ++ mk1 a x :: l) (a : Int) (p.length : Int)) r := by
  have b0 : a ≤ 1000000 := by omega
  have b1 : a + 1 ≤ 1000000 := by omega
  have b2 : a + 1 + 1 ≤ 1000000 := by omega
  have b3 : a + 1 + 1 + 1 ≤ 1000000 := by omega
  have b4 : a + 1 + 1 + 1 + x.f1.f2.length ≤ 1000000 := by omega
  have b5 : a + 1 + 1 + 1 + x.f1.f2.length + 1 ≤ 1000000 := by omega
  have b6 : a + 1 + 1 + 1 + x.f1.f2.length + 1 + 1 ≤ 1000000 := by omega
  have bp : p.length ≤ 1000000 := by omega
  have bt : a ≤ 100000000 := by omega
  have m3 := heldN x.f1.f2.length (a + 1 + 1 + 1) h3 b3
  have m6 := heldN x.f2.f2.length (a + 1 + 1 + 1 + x.f1.f2.length + 1 + 1) h6 b6
  refine Ev.succ ?_
  simp only [laws_heldSavedS.l0]
  rw [rdMid, wS a b0, wS (a + 1) b1, wS (a + 1 + 1) b2, wS p.length bp]
  refine Ev.pos (lt_mid p _ l) (Ev.pos (nat0 _) (Ev.bind (mkT_ev a bt) (Ev.pos rfl (Ev.pos rfl (Ev.pos rfl (Ev.bind m3 (Ev.neg (not_neg _) (Ev.pos rfl ?_))))))))
  rw [wS (a + 1 + 1 + 1 + x.f1.f2.length) b4, wS (a + 1 + 1 + 1 + x.f1.f2.length + 1) b5]
  exact Ev.pos rfl (Ev.bind m6 (Ev.neg (not_neg _) h))
theorem markAll (l : List S68) : ∀ (p : List S68) (a : Nat), p.length + l.length ≤ 8 → a + 2100 * l.length ≤ 100000 → (∀ x ∈ l, SV x) → Ev (fun k => laws_markSavedS.l0 k (p ++ l) (a : Int) (p.length : Int)) ((nxS a l : Int), p ++ mkS a l) := by
  induction l with
  | nil =>
    intro p a _ _ _
    rw [List.append_nil]
    refine Ev.succ ?_
    simp only [laws_markSavedS.l0]
    exact Ev.neg (by omega) (Ev.val (by simp [nxS, mkS]))
  | cons x l ih =>
    intro p a h8 ha hv
    have hx := sv_bounds (hv x (.head _))
    have hn := nx1_le a x hx.2.1 hx.2.2
    simp only [List.length_cons] at h8 ha
    refine markOne p x l a (by omega) (by omega) hx.2.1 hx.2.2 ?_
    have ih' := ih (p ++ [mk1 a x]) (nx1 a x) (by rw [List.length_append, List.length_singleton]; omega) (by omega) (fun y hy => hv y (.tail _ hy))
    rw [List.length_append, List.length_singleton, List.append_assoc, List.singleton_append, List.append_assoc, List.singleton_append] at ih'
    exact ih'
theorem heldAll (l : List S68) : ∀ (p : List S68) (a : Nat), p.length + l.length ≤ 8 → a + 2100 * l.length ≤ 100000 → (∀ x ∈ l, SV x) → Ev (fun k => laws_heldSavedS.l0 k (p ++ mkS a l) (a : Int) (p.length : Int)) (nxS a l : Int) := by
  induction l with
  | nil =>
    intro p a _ _ _
    show Ev (fun k => laws_heldSavedS.l0 k (p ++ []) (a : Int) (p.length : Int)) (nxS a [] : Int)
    rw [List.append_nil]
    refine Ev.succ ?_
    simp only [laws_heldSavedS.l0]
    exact Ev.neg (by omega) (Ev.val (by simp [nxS]))
  | cons x l ih =>
    intro p a h8 ha hv
    have hx := sv_bounds (hv x (.head _))
    have hn := nx1_le a x hx.2.1 hx.2.2
    simp only [List.length_cons] at h8 ha
    refine heldOne p x (mkS (nx1 a x) l) a (by omega) (by omega) hx.2.1 hx.2.2 ?_
    have ih' := ih (p ++ [mk1 a x]) (nx1 a x) (by rw [List.length_append, List.length_singleton]; omega) (by omega) (fun y hy => hv y (.tail _ hy))
    rw [List.length_append, List.length_singleton, List.append_assoc, List.singleton_append] at ih'
    exact ih'
theorem FnExactRecoverAll : laws_FnExactRecoverAll.Pure := by
  intro s hsz
  refine Ev.rounds ?_
  unfold laws_FnExactRecoverAll.f
  by_cases c : (s.size : Int) > 1048576
  · exact Ev.pos c (Ev.now _)
  · obtain ⟨L, o, hS, hI, ho, hv, h8⟩ := recBoth (s := s) (by omega) 8 [] 0 rfl (by omega)
    rw [List.nil_append] at hS hI
    have hS' : Ev (fun k => spec_RecoverAll.f k s) (L, (o : Int), true) := hS
    have hI' : Ev (fun k => impl_RecoverAll.f k s) (L, (o : Int), true) := hI
    have he := eqSaved68 L h8 hv
    have hm : Ev (fun k => laws_markSavedS.f k L 1) ((nxS 1 L : Int), mkS 1 L) := markAll L [] 1 (by simp; omega) (by omega) hv
    have hh : Ev (fun k => laws_heldSavedS.f k (mkS 1 L) 1) (nxS 1 L : Int) := heldAll L [] 1 (by simp; omega) (by omega) hv
    refine Ev.neg c (Ev.bind hS' (Ev.bind hI' (Ev.bind he (Ev.pos rfl (Ev.pos rfl (Ev.succ ?_))))))
    simp only [laws_FnExactRecoverAll.j0]
    refine Ev.neg (by simp) (Ev.bind hm (Ev.bind hh (Ev.neg (by omega) (Ev.pos (by trivial) (Ev.bind hI' (Ev.bind he (Ev.pos rfl (Ev.pos rfl (Ev.succ ?_)))))))))
    simp only [laws_FnExactRecoverAll.j1]
    exact Ev.neg (by simp) (Ev.bind hh (Ev.neg (by omega) (Ev.pos (by trivial) (Ev.now _))))

end Go.Proofs.Ytjhodohmifemiaa.Pure

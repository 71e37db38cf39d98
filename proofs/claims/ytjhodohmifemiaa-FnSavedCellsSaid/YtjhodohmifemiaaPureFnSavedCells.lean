/- Rules and fields are loaded as they were stored; of those that are cut or bent as bytes, a beginning is recovered. -/
import Derived.Test.YtjhodohmifemiaaPFnSavedCellsx0
import Derived.Test.YtjhodohmifemiaaPFnSavedCellsx1
import Derived.Test.YtjhodohmifemiaaPFnSavedCellsx2
import Derived.Test.YtjhodohmifemiaaPFnSavedCellsx3
import Derived.Test.YtjhodohmifemiaaPFnSavedCellsx4
import Derived.Test.YtjhodohmifemiaaVFnSavedCellsLib
namespace Go.Proofs.Ytjhodohmifemiaa.Pure
open Go.RowKit Go.Proofs.Ytjhodohmifemiaa.PFnSavedCells Go.Proofs.YtjhodohmifemiaaW.PrintWords Go.Proofs.YtjhodohmifemiaaW.PrintLast Go.Proofs.Ytjhodohmifemiaa.L
set_option linter.unusedVariables false
set_option linter.unusedSimpArgs false

theorem nameImpl (s : ByteArray) (hl : s.size ≤ 140737488351232) : Ev (fun k => impl_IsName.f k s) (cd (nameOk s)) := by
  unfold impl_IsName.f
  refine Ev.upto s.size (fun n => ∀ i : Nat, i < n → 97 ≤ bt s (i : Int) ∧ bt s (i : Int) ≤ 122) (fun _ => ()) _ (fun k _ i => impl_IsName.l0 k s s.size i) (fun i hi hp ih => ?_) (fun hp => ?_) (fun j hj => by omega)
  · refine Ev.succ ?_
    simp only [impl_IsName.l0]
    rw [wrap_id (x := (i : Int) + 1) (by omega) (by omega)]
    refine Ev.pos (by omega) (Ev.pos (by omega) (Ev.pos (by omega) ?_))
    by_cases c1 : bt s (i : Int) < 97
    · exact Ev.pos c1 (Ev.val (by rw [cd_false]; intro h; have := h.1 i hi; omega))
    · refine Ev.neg c1 ?_
      by_cases c2 : bt s (i : Int) > 122
      · exact Ev.pos c2 (Ev.val (by rw [cd_false]; intro h; have := h.1 i hi; omega))
      · refine Ev.neg c2 (ih (fun j hj => ?_))
        by_cases e : j < i
        · exact hp j e
        · obtain rfl : j = i := by omega
          omega
  · refine Ev.succ ?_
    simp only [impl_IsName.l0]
    refine Ev.neg (by omega) ?_
    by_cases c : (s.size : Int) ≥ 1
    · refine Ev.pos c (Ev.val ?_)
      by_cases c2 : (s.size : Int) ≤ 8
      · rw [decide_eq_true c2, cd_true ⟨hp, by omega, by omega⟩]
      · rw [decide_eq_false c2, cd_false (fun h => c2 (by have := h.2.2; omega))]
    · exact Ev.neg c (Ev.val (by rw [cd_false (fun h => c (by have := h.2.1; omega))]))

theorem l00In (a b c : Int) : spec_l00In.f a b c = some (decide (b ≤ a ∧ a ≤ c)) := by
  unfold spec_l00In.f
  by_cases h : a ≥ b
  · rw [if_pos h]; simp; omega
  · rw [if_neg h]; simp; omega

theorem l02Powers (x n : Int) (h0 : 0 ≤ x) (h1 : x ≤ 10) (hn0 : 0 ≤ n) (hn : n ≤ 12) : Ev (fun k => spec_l02Powers.f k x n) (x ^ n.toNat) := by
  unfold spec_l02Powers.f
  obtain ⟨m, rfl⟩ := Int.eq_ofNat_of_zero_le hn0
  have main : ∀ d i : Nat, i + d = m → Ev (fun k => spec_l02Powers.l0 k x (d : Int) (x ^ i)) (x ^ m) := by
    intro d
    induction d with
    | zero =>
      intro i hi
      refine Ev.succ ?_
      simp only [spec_l02Powers.l0]
      exact Ev.neg (by omega) (Ev.val (by rw [show i = m by omega]))
    | succ d ih =>
      intro i hi
      refine Ev.succ ?_
      simp only [spec_l02Powers.l0]
      have hb := pow_bound x (i + 1) h0 h1 (by omega)
      rw [Int.pow_succ] at hb
      refine Ev.pos (by omega) ?_
      rw [wrap_id (x := ((d + 1 : Nat) : Int) - 1) (by omega) (by omega), wrap_id (x := x ^ i * x) (by omega) (by omega), ← Int.pow_succ, show ((d + 1 : Nat) : Int) - 1 = (d : Int) by omega]
      exact ih (i + 1) (by omega)
  have := main m 0 (by omega)
  rw [Int.pow_zero] at this
  exact this

theorem within (a b c : Int) : impl_within.f a b c = some (decide (b ≤ a ∧ a ≤ c)) := by
  unfold impl_within.f
  by_cases h : a ≥ b
  · rw [if_pos h]; simp; omega
  · rw [if_neg h]; simp; omega

theorem areWithin (l : List Int) (a b : Int) (hl : l.length ≤ 35184372088832) : Ev (fun k => impl_areWithin.f k l a b) (allIn l a b) := by
  unfold impl_areWithin.f
  refine Ev.upto l.length (fun i => ∀ j, (hj : j < l.length) → j < i → a ≤ l[j] ∧ l[j] ≤ b) (fun _ => ()) _ (fun k _ i => impl_areWithin.l0 k a b l l.length i) (fun i hi hp ih => ?_) (fun hp => ?_) (fun j hj h => by omega)
  · refine Ev.succ ?_
    simp only [impl_areWithin.l0]
    refine Ev.pos (by omega) (Ev.pos (by omega) (Ev.pos (by omega) ?_))
    rw [rd_lt l i (by omega), wrap_id (by omega) (by omega), within]
    by_cases c : a ≤ l[i] ∧ l[i] ≤ b
    · exact Ev.bnd rfl (Ev.pos (by simpa using c) (ih (upTo_succ (p := fun x => a ≤ x ∧ x ≤ b) hi hp c)))
    · exact Ev.bnd rfl (Ev.neg (by simpa using c) (Ev.val (by rw [allIn_false i (by omega) c])))
  · refine Ev.succ ?_
    simp only [impl_areWithin.l0]
    exact Ev.neg (by omega) (Ev.val (by rw [allIn_true (fun j hj' => hp j hj' (by omega))]))

theorem areMany (l : List Int) (a b c d : Int) (hl : l.length ≤ 35184372088832) : Ev (fun k => impl_areMany.f k l a b c d) (decide (a ≤ l.length ∧ l.length ≤ b) && allIn l c d) := by
  unfold impl_areMany.f
  refine Ev.bnd (within _ _ _) ?_
  by_cases h : a ≤ l.length ∧ l.length ≤ b
  · refine Ev.pos (by simpa using h) (Ev.cast (Ev.bind (areWithin l c d hl) (Ev.now _)) (by simp [h]))
  · exact Ev.neg (by simpa using h) (Ev.val (by simp [h]))

theorem areStates (s : Int) : impl_areStates.f s = some (decide (s = 2 ∨ s = 3)) := by
  unfold impl_areStates.f
  by_cases h : s = 2
  · rw [if_pos h]; simp [h]
  · rw [if_neg h]
    by_cases h3 : s = 3
    · subst h3; rfl
    · simp [h, h3]

theorem raised (x n : Int) (h0 : 0 ≤ x) (h1 : x ≤ 10) (hn0 : 0 ≤ n) (hn : n ≤ 12) : Ev (fun k => impl_raised.f k x n) (x ^ n.toNat) := by
  unfold impl_raised.f
  obtain ⟨m, rfl⟩ := Int.eq_ofNat_of_zero_le hn0
  rw [Int.toNat_natCast]
  refine Ev.congr (fun k => ?_) (Ev.upto m (fun _ => True) (fun i => x ^ i) (x ^ m) (fun k s i => impl_raised.l0 k x s m i) (fun i hi _ ih => ?_) (fun _ => ?_) trivial)
  · rw [Int.pow_zero]
  · refine Ev.succ ?_
    simp only [impl_raised.l0]
    have hb := pow_bound x (i + 1) h0 h1 (by omega)
    rw [Int.pow_succ] at hb
    refine Ev.pos (by omega) ?_
    rw [wrap_id (x := (i : Int) + 1) (by omega) (by omega), wrap_id (x := x ^ i * x) (by omega) (by omega), ← Int.pow_succ]
    exact ih trivial
  · refine Ev.succ ?_
    simp only [impl_raised.l0]
    exact Ev.neg (by omega) (Ev.now _)

theorem isReach (r : Int) : impl_isReach.f r = some (decide (0 ≤ r ∧ r ≤ 2)) := by
  unfold impl_isReach.f
  rw [within]; rfl
theorem ruleCells (s r : Int) (t : List Int) (h0 : 0 ≤ r) (h1 : r ≤ 2) : impl_Rule_cells.f s r t = some (2 * r + 1) := by
  unfold impl_Rule_cells.f
  rw [wrap_id (x := 2 * r) (by omega) (by omega), wrap_id (x := 2 * r + 1) (by omega) (by omega)]

theorem ValidRule (s r : Int) (t : List Int) (hl : t.length ≤ 35184372088832) : Ev (fun k => impl_ValidRule.f k s r t) (validRule s r t) := by
  unfold impl_ValidRule.f validRule
  refine Ev.bnd (areStates s) ?_
  by_cases hs : 2 ≤ s ∧ s ≤ 3
  · refine Ev.pos (by simp; omega) (Ev.bnd (isReach r) (Ev.succ ?_))
    simp only [impl_ValidRule.j0]
    by_cases hr : 0 ≤ r ∧ r ≤ 2
    · refine Ev.neg (by simpa using hr) (Ev.bnd (ruleCells s r t hr.1 hr.2) (Ev.bind (raised s (2 * r + 1) (by omega) (by omega) (by omega) (by omega)) ?_))
      rw [wrap_id (x := s - 1) (by omega) (by omega)]
      refine Ev.cast (Ev.bind (areMany t _ _ 0 (s - 1) hl) (Ev.now _)) ?_
      rw [decide_eq_true hs, decide_eq_true hr, Bool.true_and, Bool.true_and]
      congr 1
      exact decide_eq_decide.mpr (by omega)
    · exact Ev.pos (by simp; omega) (Ev.val (by simp [hr]))
  · refine Ev.neg (by simp; omega) (Ev.succ ?_)
    simp only [impl_ValidRule.j0]
    exact Ev.pos (by trivial) (Ev.val (by simp [hs]))

theorem isSide (r : Int) : impl_isSide.f r = some (decide (1 ≤ r ∧ r ≤ 24)) := by
  unfold impl_isSide.f
  rw [within]; rfl
theorem ValidField (r c : Int) (l : List Int) (hl : l.length ≤ 35184372088832) : Ev (fun k => impl_ValidField.f k r c l) (validField r c l) := by
  unfold impl_ValidField.f validField
  refine Ev.cast (Ev.andB (isSide r) (fun hr => Ev.andB (isSide c) (fun hc => ?_))) (by rw [← Bool.and_assoc, ← Bool.and_assoc])
  rw [decide_eq_true_eq] at hr hc
  have hm1 : 0 ≤ r * c := Int.mul_nonneg (by omega) (by omega)
  have hm2 : r * c ≤ 24 * c := Int.mul_le_mul_of_nonneg_right hr.2 (by omega)
  rw [wrap_id (x := r * c) (by omega) (by omega)]
  refine Ev.cast (Ev.ret (areMany l _ _ 0 9 hl)) ?_
  congr 1
  exact decide_eq_decide.mpr (by omega)

/-- What is saved is valid. -/
noncomputable def savedOk (nm : ByteArray) (s r : Int) (t : List Int) (p q : Int) (l : List Int) : Bool := cd (nameOk nm) && (validRule s r t && validField p q l)
theorem savedImpl (nm : ByteArray) (s r : Int) (t : List Int) (p q : Int) (l : List Int) (hn : nm.size ≤ 140737488351232) (ht : t.length ≤ 35184372088832) (hl : l.length ≤ 35184372088832) : Ev (fun k => impl_ValidSaved.f k nm s r t p q l) (savedOk nm s r t p q l) := by
  unfold impl_ValidSaved.f savedOk
  exact Ev.and (nameImpl nm hn) (fun _ => Ev.and (ValidRule s r t ht) (fun _ => Ev.ret (ValidField p q l hl)))

theorem strOf_append (xs ys : List Int) : strOfNums (xs ++ ys) = strOfNums xs ++ strOfNums ys := by
  unfold strOfNums
  apply ByteArray.ext
  rw [ByteArray.data_append]
  simp
theorem strOf_bytesOf (s : ByteArray) : strOfNums (bytesOf s) = s := by
  have e : ((fun n : Int => UInt8.ofNat n.toNat) ∘ fun b : UInt8 => (b.toNat : Int)) = id := by
    funext b
    simp
  unfold strOfNums bytesOf
  apply ByteArray.ext
  show (List.map _ (List.map _ _)).toArray = s.data
  rw [List.map_map, e, List.map_id]
/-- Numbers as bytes. -/
def byL (l : List Int) : List Int := l.map (· % 256)
theorem byL_length (l : List Int) : (byL l).length = l.length := by simp [byL]
/-- What is stored, as numbers, but for the check. -/
def storeL (nm : ByteArray) (s r : Int) (t : List Int) (p q : Int) (l : List Int) : List Int := [67, 69, 76, 49] ++ [(nm.size : Int) % 256] ++ bytesOf nm ++ [s % 256, r % 256] ++ byL t ++ [p % 256, q % 256] ++ byL l
/-- The check number behind n bytes. -/
def chk (s : ByteArray) : Nat → Int
  | 0 => 0
  | n + 1 => Int.tmod (wrap64 ((wrap64 ((wrap64 (947 * chk s n)) + (wrap64 (bt s (n : Int))))) + 211)) 65003
def tailL (c : Int) : List Int := [(Int.tmod c 256) % 256, (wrap64 (Int.tdiv c 256)) % 256]
/-- What is stored. -/
def storeB (nm : ByteArray) (s r : Int) (t : List Int) (p q : Int) (l : List Int) : ByteArray := strOfNums (storeL nm s r t p q l ++ tailL (chk (strOfNums (storeL nm s r t p q l)) (strOfNums (storeL nm s r t p q l)).size))
theorem storeB_size (nm : ByteArray) (s r : Int) (t : List Int) (p q : Int) (l : List Int) : (storeB nm s r t p q l).size = nm.size + t.length + l.length + 11 := by
  unfold storeB
  rw [str_size]
  simp [storeL, tailL, byL, bytesOf_length]
  omega
theorem checkImpl (s : ByteArray) (h : s.size ≤ 1000000000000) : Ev (fun k => impl_CheckOf.f k 0 s) (chk s s.size, true) := by
  unfold impl_CheckOf.f
  refine Ev.bnd (within _ _ _) (Ev.pos (by simp) ?_)
  refine Ev.upto s.size (fun _ => True) (fun i => chk s i) _ (fun k c i => impl_CheckOf.l0 k c s s.size i) (fun i hi _ ih => ?_) (fun _ => ?_) trivial
  · refine Ev.succ ?_
    simp only [impl_CheckOf.l0]
    rw [wrap_id (x := (i : Int) + 1) (by omega) (by omega)]
    exact Ev.pos (by omega) (Ev.pos (by omega) (Ev.pos (by omega) (ih trivial)))
  · refine Ev.succ ?_
    simp only [impl_CheckOf.l0]
    exact Ev.neg (by omega) (Ev.now _)
theorem keyOf (l : List Int) (h : l.length ≤ 1000000000000) : Ev (fun k => impl_keyOf.f k l) (strOfNums (byL l)) := by
  unfold impl_keyOf.f
  rw [Int.toNat_natCast]
  refine Ev.pos (by omega) (Ev.pos (by omega) ?_)
  refine Ev.congr (fun k => ?_) (Ev.upto l.length (fun _ => True) (fun i => (byL l).take i ++ (List.replicate l.length (0 : Int)).drop i) (strOfNums (byL l)) (fun k s i => impl_keyOf.l0 k s l l.length i) (fun i hi _ ih => ?_) (fun _ => ?_) trivial)
  · simp
  · refine Ev.succ ?_
    simp only [impl_keyOf.l0]
    have h1 := take_drop_set (byL l) (List.replicate l.length (0 : Int)) i (by rw [byL_length]; exact hi) (by rw [byL_length]; simp)
    have ih' := ih trivial
    rw [← h1] at ih'
    rw [rd_lt l i hi, wrap_id (x := (i : Int) + 1) (by omega) (by omega), Int.toNat_natCast]
    have e : (byL l)[i]'(by rw [byL_length]; exact hi) = l[i] % 256 := by simp [byL]
    rw [e] at ih'
    exact Ev.pos (by omega) (Ev.pos (by omega) (Ev.pos (by omega) (Ev.pos (by simp [byL_length]; omega) ih')))
  · refine Ev.succ ?_
    simp only [impl_keyOf.l0]
    rw [List.drop_of_length_le (by simp), List.append_nil, List.take_of_length_le (by simp [byL_length])]
    exact Ev.neg (by omega) (Ev.now _)
theorem byL_take_succ (l : List Int) (i : Nat) (h : i < l.length) : byL (l.take (i + 1)) = byL (l.take i) ++ [l[i] % 256] := by
  unfold byL
  rw [List.take_succ_eq_append_getElem h, List.map_append]; rfl
theorem storeStr (nm : ByteArray) (s r : Int) (t : List Int) (p q : Int) (l : List Int) : ((((⟨#[67, 69, 76, 49]⟩ : ByteArray) ++ strOfNums [(nm.size : Int) % 256]) ++ nm) ++ (strOfNums (byL [s, r]) ++ strOfNums (byL t))) ++ (strOfNums (byL [p, q]) ++ strOfNums (byL l)) = strOfNums (storeL nm s r t p q l) := by
  unfold storeL
  have e : strOfNums [67, 69, 76, 49] = (⟨#[67, 69, 76, 49]⟩ : ByteArray) := by rfl
  simp only [strOf_append, strOf_bytesOf, e, ByteArray.append_assoc]
  rfl
theorem storeImpl (nm : ByteArray) (s r : Int) (t : List Int) (p q : Int) (l : List Int) (hn : nm.size ≤ 1000) (ht : t.length ≤ 1000000) (hl : l.length ≤ 1000000) (hv : Ev (fun k => impl_ValidSaved.f k nm s r t p q l) true) : Ev (fun k => impl_StoreSaved.f k nm s r t p q l) (storeB nm s r t p q l, true) := by
  unfold impl_StoreSaved.f
  refine Ev.bind hv (Ev.pos rfl ?_)
  simp only [Option.bind_some]
  have k1 := keyOf [s, r] (by simp)
  have k2 := keyOf t (by omega)
  have k3 := keyOf [p, q] (by simp)
  have k4 := keyOf l (by omega)
  have z1 : (strOfNums (byL [s, r])).size = 2 := by rw [str_size, byL_length]; rfl
  have z2 : (strOfNums (byL t)).size = t.length := by rw [str_size, byL_length]
  have z3 : (strOfNums (byL [p, q])).size = 2 := by rw [str_size, byL_length]; rfl
  have z4 : (strOfNums (byL l)).size = l.length := by rw [str_size, byL_length]
  have z0 : (strOfNums [(nm.size : Int) % 256]).size = 1 := by rw [str_size]; rfl
  have zs : (strOfNums (storeL nm s r t p q l)).size = nm.size + t.length + l.length + 9 := by
    rw [str_size]
    simp [storeL, byL, bytesOf_length]
    omega
  have k5 := keyOf [Int.tmod (chk (strOfNums (storeL nm s r t p q l)) (strOfNums (storeL nm s r t p q l)).size) 256, wrap64 (Int.tdiv (chk (strOfNums (storeL nm s r t p q l)) (strOfNums (storeL nm s r t p q l)).size) 256)] (by simp)
  have z5 : (strOfNums (byL [Int.tmod (chk (strOfNums (storeL nm s r t p q l)) (strOfNums (storeL nm s r t p q l)).size) 256, wrap64 (Int.tdiv (chk (strOfNums (storeL nm s r t p q l)) (strOfNums (storeL nm s r t p q l)).size) 256)])).size = 2 := by rw [str_size, byL_length]; rfl
  refine Ev.pos (by omega) (Ev.pos (by omega) (Ev.bind k1 (Ev.bind k2 (Ev.pos (by omega) (Ev.pos (by omega) (Ev.bind k3 (Ev.bind k4 (Ev.pos (by omega) (Ev.pos (by omega) ?_)))))))))
  rw [storeStr]
  refine Ev.bind (checkImpl _ (by omega)) (Ev.bind k5 (Ev.pos (by omega) (Ev.val ?_)))
  unfold storeB
  rw [strOf_append]
  rfl

theorem saved_len {nm : ByteArray} {s r : Int} {t : List Int} {p q : Int} {l : List Int} (h : savedOk nm s r t p q l = true) : nm.size ≤ 1000 ∧ t.length ≤ 1000000 ∧ l.length ≤ 1000000 := by
  unfold savedOk at h
  simp only [Bool.and_eq_true] at h
  obtain ⟨h1, h2, h3⟩ := h
  have h1' := (cd_iff.1 h1).2.2
  refine ⟨by omega, ?_, ?_⟩
  · unfold validRule at h2
    simp only [Bool.and_eq_true, decide_eq_true_eq] at h2
    obtain ⟨⟨⟨hs, hr⟩, hn⟩, _⟩ := h2
    have : r = 0 ∨ r = 1 ∨ r = 2 := by omega
    have : s = 2 ∨ s = 3 := by omega
    rcases ‹r = 0 ∨ r = 1 ∨ r = 2› with rfl | rfl | rfl <;> rcases ‹s = 2 ∨ s = 3› with rfl | rfl <;> simp at hn <;> omega
  · unfold validField at h3
    simp only [Bool.and_eq_true, decide_eq_true_eq] at h3
    obtain ⟨⟨⟨hp, hq⟩, hn⟩, _⟩ := h3
    have h4 : p * q ≤ 24 * 24 := Int.mul_le_mul hp.2 hq.2 (by omega) (by omega)
    omega
/-- What StoreSaved answers. -/
noncomputable def storeSaved (nm : ByteArray) (s r : Int) (t : List Int) (p q : Int) (l : List Int) : ByteArray × Bool := if savedOk nm s r t p q l = true then (storeB nm s r t p q l, true) else (⟨#[]⟩, false)
theorem storeSavedImpl (nm : ByteArray) (s r : Int) (t : List Int) (p q : Int) (l : List Int) (hn : nm.size ≤ 140737488351232) (ht : t.length ≤ 35184372088832) (hl : l.length ≤ 35184372088832) : Ev (fun k => impl_StoreSaved.f k nm s r t p q l) (storeSaved nm s r t p q l) := by
  unfold storeSaved
  by_cases g : savedOk nm s r t p q l = true
  · have hs := saved_len g
    rw [if_pos g]
    exact storeImpl nm s r t p q l hs.1 hs.2.1 hs.2.2 (Ev.cast (savedImpl nm s r t p q l hn ht hl) g)
  · rw [if_neg g]
    unfold impl_StoreSaved.f
    exact Ev.bind (savedImpl nm s r t p q l hn ht hl) (Ev.neg g (Ev.now _))

/-- The bytes of a text. -/
theorem bytesOf_len (s : ByteArray) : (bytesOf s).length = s.size := by
  unfold bytesOf
  rw [List.length_map, Array.length_toList]
  rfl
theorem bytesOf_get (s : ByteArray) (i : Nat) (h : i < (bytesOf s).length) : (bytesOf s)[i] = bt s (i : Int) := by
  have hs : i < s.size := by rwa [bytesOf_len] at h
  have hl : i < s.data.size := hs
  unfold bt
  rw [dif_pos (by rw [Int.toNat_natCast]; exact hs)]
  simp only [bytesOf, List.getElem_map, Array.getElem_toList]
  rfl
theorem bytesOf_range (s : ByteArray) : ∀ x ∈ bytesOf s, 0 ≤ x ∧ x ≤ 255 := by
  intro x hx
  unfold bytesOf at hx
  rw [List.mem_map] at hx
  obtain ⟨b, _, rfl⟩ := hx
  have : b.toNat < 256 := b.toNat_lt
  omega

/-- A byte of a text. -/
def bn (s : ByteArray) (i : Nat) : Nat := (bt s (i : Int)).toNat
theorem bt_range (s : ByteArray) (i : Int) : 0 ≤ bt s i ∧ bt s i ≤ 255 := by
  unfold bt
  split
  · rename_i h
    have : (s[i.toNat]'h).toNat < 256 := (s[i.toNat]'h).toNat_lt
    omega
  · omega
theorem bt_bn (s : ByteArray) (i : Nat) : bt s (i : Int) = (bn s i : Int) := by
  have := bt_range s i
  unfold bn; omega
theorem bn_le (s : ByteArray) (i : Nat) : bn s i ≤ 255 := by
  have := bt_range s i
  unfold bn; omega
/-- The places in a text that begins with what is saved. -/
structure Offs (s : ByteArray) (A S R N C P Q E : Nat) : Prop where
  hA : A = 5 + bn s 4
  hS : S = bn s A
  hR : R = bn s (A + 1)
  hN : N = S ^ (2 * R + 1)
  hC : C = A + 2 + N
  hP : P = bn s C
  hQ : Q = bn s (C + 1)
  hE : E = C + 2 + P * Q
/-- A text begins with what is saved. -/
structure BegOk (s : ByteArray) (A S R C P Q E : Nat) : Prop where
  h1 : A + 2 ≤ s.size
  h2 : 2 ≤ S ∧ S ≤ 3
  h3 : R ≤ 2
  h4 : C + 2 ≤ s.size
  h5 : E + 2 ≤ s.size
  h6 : savedOk (s.extract 5 A) S R (bytesOf (s.extract (A + 2) C)) P Q (bytesOf (s.extract (C + 2) E)) = true
  h7 : storeB (s.extract 5 A) S R (bytesOf (s.extract (A + 2) C)) P Q (bytesOf (s.extract (C + 2) E)) = s.extract 0 (E + 2)
noncomputable def beginW (s : ByteArray) (A S R C P Q E : Nat) : ByteArray × Int × Int × List Int × Int × Int × List Int × Int :=
  if cd (BegOk s A S R C P Q E) = true then (s.extract 5 A, (S : Int), (R : Int), bytesOf (s.extract (A + 2) C), (P : Int), (Q : Int), bytesOf (s.extract (C + 2) E), ((E + 2 : Nat) : Int)) else (⟨#[]⟩, 0, 0, [], 0, 0, [], 0)
theorem beginW_ok {s : ByteArray} {A S R C P Q E : Nat} (h : BegOk s A S R C P Q E) : beginW s A S R C P Q E = (s.extract 5 A, (S : Int), (R : Int), bytesOf (s.extract (A + 2) C), (P : Int), (Q : Int), bytesOf (s.extract (C + 2) E), ((E + 2 : Nat) : Int)) := if_pos (cd_true h)
theorem beginW_no {s : ByteArray} {A S R C P Q E : Nat} (h : ¬ BegOk s A S R C P Q E) : beginW s A S R C P Q E = (⟨#[]⟩, 0, 0, [], 0, 0, [], 0) := if_neg (fun e => h (cd_iff.1 e))
theorem offs_ex (s : ByteArray) : ∃ A S R N C P Q E, Offs s A S R N C P Q E := ⟨_, _, _, _, _, _, _, _, rfl, rfl, rfl, rfl, rfl, rfl, rfl, rfl⟩
theorem Offs.uniq {s : ByteArray} {A S R N C P Q E A' S' R' N' C' P' Q' E' : Nat} (h : Offs s A S R N C P Q E) (h' : Offs s A' S' R' N' C' P' Q' E') : A' = A ∧ S' = S ∧ R' = R ∧ C' = C ∧ P' = P ∧ Q' = Q ∧ E' = E := by
  obtain ⟨rfl, rfl, rfl, rfl, rfl, rfl, rfl, rfl⟩ := h
  obtain ⟨rfl, rfl, rfl, rfl, rfl, rfl, rfl, rfl⟩ := h'
  exact ⟨rfl, rfl, rfl, rfl, rfl, rfl, rfl⟩
theorem pow_small {a b : Nat} (h : 2 ≤ a ∧ a ≤ 3) (hb : b ≤ 2) : a ^ (2 * b + 1) ≤ 243 := by
  rcases (by omega : a = 2 ∨ a = 3) with rfl | rfl <;> rcases (by omega : b = 0 ∨ b = 1 ∨ b = 2) with rfl | rfl | rfl <;> decide
theorem ext_size' (s : ByteArray) (a b : Nat) (h : b ≤ s.size) : (s.extract a b).size = b - a := by
  rw [ByteArray.size_extract]; omega
theorem wrapTo {x y : Int} (h : x = y) (h0 : -9223372036854775808 ≤ y) (h1 : y ≤ 9223372036854775807) : wrap64 x = y := by subst h; exact wrap_id h0 h1
theorem wrapN (n : Nat) (h : n ≤ 9223372036854775807) : wrap64 (n : Int) = (n : Int) := wrap_id (by omega) (by omega)
theorem repeatL_len (x : List UInt8) (n : Nat) : (Go.Lib.repeatL x n).length = x.length * n := by rw [Go.Lib.repeatL_length, Nat.mul_comm]
/-- So many bytes are taken, or it is told that they are not there. -/
theorem takeEx (s : ByteArray) (hs : s.size ≤ 1048576) (at_ m : Nat) (sh : Bool) (ha : at_ ≤ s.size) (hm : m ≤ 100000) : ∃ (x : ByteArray) (a' : Nat) (sh' : Bool), impl_taker_take.f s (at_ : Int) sh (m : Int) = some (x, s, (a' : Int), sh') ∧ x.size = m ∧ a' ≤ s.size ∧ (sh = true → sh' = true) ∧ (at_ + m ≤ s.size → x = s.extract at_ (at_ + m) ∧ a' = at_ + m ∧ sh' = sh) ∧ (¬ at_ + m ≤ s.size → sh' = true) := by
  unfold impl_taker_take.f
  rw [wrapTo (x := (s.size : Int) - (at_ : Int)) (y := ((s.size - at_ : Nat) : Int)) (by omega) (by omega) (by omega), wrapTo (x := (at_ : Int) + (m : Int)) (y := ((at_ + m : Nat) : Int)) (by omega) (by omega) (by omega), wrapTo (x := ((at_ + m : Nat) : Int) - (m : Int)) (y := (at_ : Int)) (by omega) (by omega) (by omega)]
  by_cases c : at_ + m ≤ s.size
  · rw [if_neg (by omega), if_pos (by omega), if_pos (by omega), if_pos (by omega), Int.toNat_natCast, Int.toNat_natCast]
    refine ⟨_, _, _, rfl, ?_, by omega, fun h => h, fun _ => ⟨rfl, rfl, rfl⟩, fun h => absurd c h⟩
    rw [ext_size' _ _ _ c]; omega
  · rw [if_pos (by omega)]
    have e : strings_Repeat.f (⟨#[0]⟩ : ByteArray) (m : Int) = some ⟨(Go.Lib.repeatL [0] m).toArray⟩ := by
      unfold strings_Repeat.f
      rw [if_pos (by omega), if_pos (by omega), Int.toNat_natCast, if_pos (by show 1 * m ≤ _; omega)]
    rw [e]
    refine ⟨⟨(Go.Lib.repeatL [0] m).toArray⟩, at_, true, rfl, ?_, ha, fun _ => rfl, fun h => absurd h c, fun _ => rfl⟩
    show (Go.Lib.repeatL [0] m).toArray.size = m
    rw [List.size_toArray, repeatL_len]; simp
/-- So many numbers are taken, or it is told that they are not there. -/
theorem numsEx (s : ByteArray) (hs : s.size ≤ 1048576) (at_ m : Nat) (sh : Bool) (ha : at_ ≤ s.size) (hm : m ≤ 100000) : ∃ (x : List Int) (a' : Nat) (sh' : Bool), Ev (fun k => impl_taker_numbers.f k s (at_ : Int) sh (m : Int)) (x, s, (a' : Int), sh') ∧ x.length = m ∧ (∀ y ∈ x, 0 ≤ y ∧ y ≤ 255) ∧ a' ≤ s.size ∧ (sh = true → sh' = true) ∧ (at_ + m ≤ s.size → x = bytesOf (s.extract at_ (at_ + m)) ∧ a' = at_ + m ∧ sh' = sh) ∧ (¬ at_ + m ≤ s.size → sh' = true) := by
  obtain ⟨x, a', sh', h1, h2, h3, h4, h5, h6⟩ := takeEx s hs at_ m sh ha hm
  refine ⟨bytesOf x, a', sh', ?_, by rw [bytesOf_len]; exact h2, bytesOf_range x, h3, h4, fun h => ⟨by rw [(h5 h).1], (h5 h).2⟩, h6⟩
  unfold impl_taker_numbers.f
  refine Ev.bnd h1 (Ev.pos (by show x.size ≤ _; omega) (Ev.bnd rfl ?_))
  refine Ev.congr (fun k => ?_) (Ev.upto (bytesOf x).length (fun _ => True) (fun i => (bytesOf x).take i) (bytesOf x, s, (a' : Int), sh') (fun k l i => impl_taker_numbers.l0 k l (bytesOf x) (bytesOf x).length i s a' sh') (fun i hi _ ih => ?_) (fun _ => ?_) trivial)
  · simp
  · have hn := bytesOf_len x
    refine Ev.succ ?_
    simp only [impl_taker_numbers.l0]
    have hx := bytesOf_range x _ (List.getElem_mem hi)
    rw [rd_lt (bytesOf x) i hi]
    have ih' := ih trivial
    rw [List.take_succ_eq_append_getElem hi] at ih'
    refine Ev.pos (by omega) (Ev.pos (by omega) (Ev.pos (by omega) (Ev.pos (by rw [List.length_take]; omega) ?_)))
    rw [wrap_id (x := (i : Int) + 1) (by omega) (by omega), wrap_id (x := (bytesOf x)[i]) (by omega) (by omega)]
    exact ih'
  · refine Ev.succ ?_
    simp only [impl_taker_numbers.l0]
    rw [List.take_length]
    exact Ev.neg (by omega) (Ev.now _)
theorem two_of {x : List Int} (h : x.length = 2) (hx : ∀ y ∈ x, 0 ≤ y ∧ y ≤ 255) : ∃ a b : Nat, a ≤ 255 ∧ b ≤ 255 ∧ x = [(a : Int), (b : Int)] := by
  match x, h with
  | [u, v], _ =>
    have hu := hx u (.head _)
    have hv := hx v (.tail _ (.head _))
    exact ⟨u.toNat, v.toNat, by omega, by omega, by rw [Int.toNat_of_nonneg hu.1, Int.toNat_of_nonneg hv.1]⟩
theorem one_of' {x : List Int} (h : x.length = 1) (hx : ∀ y ∈ x, 0 ≤ y ∧ y ≤ 255) : ∃ a : Nat, a ≤ 255 ∧ x = [(a : Int)] := by
  match x, h with
  | [u], _ =>
    have hu := hx u (.head _)
    exact ⟨u.toNat, by omega, by rw [Int.toNat_of_nonneg hu.1]⟩
theorem bytes_get (s : ByteArray) (a b i : Nat) (hb : b ≤ s.size) (hi : a + i < b) : (bytesOf (s.extract a b))[i]? = some (bn s (a + i) : Int) := by
  have hl : i < (bytesOf (s.extract a b)).length := by rw [bytesOf_len, ext_size' _ _ _ hb]; omega
  rw [List.getElem?_eq_getElem hl, bytesOf_get, ← bt_bn]
  congr 1
  have h1 : i < (s.extract a b).size := by rw [ext_size' _ _ _ hb]; omega
  unfold bt
  rw [dif_pos (by rw [Int.toNat_natCast]; exact h1), dif_pos (by rw [Int.toNat_natCast]; omega)]
  simp only [Int.toNat_natCast]
  rw [ByteArray.getElem_extract]
theorem bytes_one (s : ByteArray) (a : Nat) (h : a + 1 ≤ s.size) : bytesOf (s.extract a (a + 1)) = [(bn s a : Int)] := by
  have hl : (bytesOf (s.extract a (a + 1))).length = 1 := by rw [bytesOf_len, ext_size' _ _ _ h]; omega
  have h0 := bytes_get s a (a + 1) 0 h (by omega)
  match e : bytesOf (s.extract a (a + 1)), hl with
  | [u], _ => rw [e] at h0; simp at h0; rw [h0]
theorem bytes_two (s : ByteArray) (a : Nat) (h : a + 2 ≤ s.size) : bytesOf (s.extract a (a + 2)) = [(bn s a : Int), (bn s (a + 1) : Int)] := by
  have hl : (bytesOf (s.extract a (a + 2))).length = 2 := by rw [bytesOf_len, ext_size' _ _ _ h]; omega
  have h0 := bytes_get s a (a + 2) 0 h (by omega)
  have h1 := bytes_get s a (a + 2) 1 h (by omega)
  match e : bytesOf (s.extract a (a + 2)), hl with
  | [u, v], _ => rw [e] at h0 h1; simp at h0 h1; rw [h0, h1]
theorem unshort {sh sh' : Bool} {p : Prop} [Decidable p] (u : sh = true → sh' = true) (n : ¬ p → sh' = true) (h : sh' = false) : sh = false ∧ p := by
  constructor
  · cases sh with
    | false => rfl
    | true => exact absurd (u rfl) (by simp [h])
  · exact Decidable.byContradiction fun hc => absurd (n hc) (by simp [h])
theorem store_head (nm : ByteArray) (s r : Int) (t : List Int) (p q : Int) (l : List Int) : (storeB nm s r t p q l).data.toList.take 4 = [67, 69, 76, 49] := by
  unfold storeB storeL strOfNums
  simp
theorem begOk_head {s : ByteArray} {A S R C P Q E : Nat} (hE : C + 2 ≤ E) (h : BegOk s A S R C P Q E) : (s.extract 0 4).toList = [67, 69, 76, 49] := by
  have e := store_head (s.extract 5 A) S R (bytesOf (s.extract (A + 2) C)) P Q (bytesOf (s.extract (C + 2) E))
  rw [h.h7] at e
  rw [ByteArray.toList_eq, Go.Lib.extract_data]
  rw [Go.Lib.extract_data, List.drop_zero, List.take_take] at e
  rw [List.drop_zero, ← e]
  congr 1
  omega
theorem takenImpl (s : ByteArray) (hs : s.size ≤ 1048576) {A S R N C P Q E : Nat} (ho : Offs s A S R N C P Q E) : Ev (fun k => impl_taken.f k s) (beginW s A S R C P Q E) := by
  obtain ⟨hA, hS, hR, hN0, hC, hP, hQ, hE0⟩ := ho
  have zero : ∀ {X : Prop}, (BegOk s A S R C P Q E → False) → some ((⟨#[]⟩ : ByteArray), (0 : Int), (0 : Int), ([] : List Int), (0 : Int), (0 : Int), ([] : List Int), (0 : Int)) = some (beginW s A S R C P Q E) := fun h => congrArg some (beginW_no h).symm
  unfold impl_taken.f
  obtain ⟨x1, a1, sh1, f1, z1, l1, u1, g1, n1⟩ := takeEx s hs 0 4 false (by omega) (by omega)
  refine Ev.bnd f1 ?_
  by_cases c1 : x1.toList = [67, 69, 76, 49]
  case neg => exact Ev.neg c1 (Ev.val (zero (X := True) (fun h => c1 (by
    have := h.h1
    rw [(g1 (by omega)).1]
    exact begOk_head (by rw [hE0]; omega) h))))
  obtain ⟨y2, a2, sh2, f2, z2, r2, l2, u2, g2, n2⟩ := numsEx s hs a1 1 sh1 l1 (by omega)
  obtain ⟨nb, hnb, rfl⟩ := one_of' z2 r2
  refine Ev.pos c1 (Ev.bind f2 (Ev.pos (by simp) ?_))
  obtain ⟨x3, a3, sh3, f3, z3, l3, u3, g3, n3⟩ := takeEx s hs a2 nb sh2 l2 (by omega)
  obtain ⟨y4, a4, sh4, f4, z4, r4, l4, u4, g4, n4⟩ := numsEx s hs a3 2 sh3 l3 (by omega)
  obtain ⟨st, rc, hst, hrc, rfl⟩ := two_of z4 r4
  have V1 : sh4 = false → A + 2 ≤ s.size := by
    intro h
    obtain ⟨h3, d4⟩ := unshort u4 n4 h
    obtain ⟨h2, d3⟩ := unshort u3 n3 h3
    obtain ⟨h1, d2⟩ := unshort u2 n2 h2
    obtain ⟨_, d1⟩ := unshort u1 n1 h1
    obtain ⟨_, p1, _⟩ := g1 d1
    obtain ⟨e2, p2, _⟩ := g2 d2
    obtain ⟨_, p3, _⟩ := g3 d3
    rw [bytes_one s a1 d2, p1] at e2
    injection e2 with e2
    have : nb = bn s 4 := by exact_mod_cast e2
    omega
  have K1 : A + 2 ≤ s.size → x3 = s.extract 5 A ∧ st = S ∧ rc = R ∧ a4 = A + 2 ∧ sh4 = false := by
    intro h
    obtain ⟨_, p1, q1⟩ := g1 (by omega)
    obtain ⟨e2, p2, q2⟩ := g2 (by omega)
    rw [bytes_one s a1 (by omega), p1] at e2
    injection e2 with e2
    have e2' : nb = bn s 4 := by exact_mod_cast e2
    obtain ⟨e3, p3, q3⟩ := g3 (by omega)
    obtain ⟨e4, p4, q4⟩ := g4 (by omega)
    have ha3 : a3 = A := by omega
    rw [bytes_two s a3 (by omega), ha3] at e4
    injection e4 with e4 e5
    injection e5 with e5
    have ha2 : a2 = 5 := by omega
    refine ⟨by rw [e3, ha2, show 5 + nb = A by omega], by rw [hS]; exact_mod_cast e4, by rw [hR]; exact_mod_cast e5, by omega, by rw [q4, q3, q2, q1]⟩
  refine Ev.bnd f3 (Ev.bind f4 (Ev.pos (by simp) (Ev.pos (by simp) (Ev.bnd (areStates _) ?_))))
  have rd0 : rd [(st : Int), (rc : Int)] 0 = (st : Int) := rfl
  have rd1 : rd [(st : Int), (rc : Int)] 1 = (rc : Int) := rfl
  rw [rd0, rd1]
  by_cases cS : st = 2 ∨ st = 3
  case neg =>
    refine Ev.neg (by simp; omega) (Ev.succ ?_)
    simp only [impl_taken.j0]
    exact Ev.pos trivial (Ev.val (zero (X := True) (fun h => cS (by
      have := (K1 h.h1).2.1
      have := h.h2
      omega))))
  refine Ev.pos (by simp; omega) (Ev.bnd (isReach _) (Ev.succ ?_))
  simp only [impl_taken.j0]
  by_cases cR : rc ≤ 2
  case neg =>
    exact Ev.pos (by simp; omega) (Ev.val (zero (X := True) (fun h => cR (by
      have := (K1 h.h1).2.2.1
      have := h.h3
      omega))))
  refine Ev.neg (by simp; omega) (Ev.bnd (ruleCells _ _ _ (by omega) (by omega)) ?_)
  have hpw := raised (st : Int) (2 * (rc : Int) + 1) (by omega) (by omega) (by omega) (by omega)
  rw [show (2 * (rc : Int) + 1).toNat = 2 * rc + 1 by omega, ← Int.natCast_pow] at hpw
  refine Ev.bind hpw ?_
  clear hpw
  have hM : st ^ (2 * rc + 1) ≤ 243 := pow_small (by omega) cR
  obtain ⟨M, hM0⟩ : ∃ M, M = st ^ (2 * rc + 1) := ⟨_, rfl⟩
  rw [← hM0] at hM ⊢
  obtain ⟨y5, a5, sh5, f5, z5, r5, l5, u5, g5, n5⟩ := numsEx s hs a4 M sh4 l4 (by omega)
  obtain ⟨y6, a6, sh6, f6, z6, r6, l6, u6, g6, n6⟩ := numsEx s hs a5 2 sh5 l5 (by omega)
  obtain ⟨p, q, hp, hq, rfl⟩ := two_of z6 r6
  refine Ev.bind f5 (Ev.bind f6 (Ev.pos (by simp) (Ev.pos (by simp) ?_)))
  have rd2 : rd [(p : Int), (q : Int)] 0 = (p : Int) := rfl
  have rd3 : rd [(p : Int), (q : Int)] 1 = (q : Int) := rfl
  rw [rd2, rd3]
  have hL : p * q ≤ 65025 := Nat.mul_le_mul hp hq
  obtain ⟨L, hL0⟩ : ∃ L, L = p * q := ⟨_, rfl⟩
  rw [← Int.natCast_mul, ← hL0, wrapN _ (by omega)]
  rw [← hL0] at hL
  obtain ⟨y7, a7, sh7, f7, z7, r7, l7, u7, g7, n7⟩ := numsEx s hs a6 L sh6 l6 (by omega)
  obtain ⟨x8, a8, sh8, f8, z8, l8, u8, g8, n8⟩ := takeEx s hs a7 2 sh7 l7 (by omega)
  refine Ev.bind f7 (Ev.bnd f8 ?_)
  have K2 : A + 2 ≤ s.size → E + 2 ≤ s.size → y5 = bytesOf (s.extract (A + 2) C) ∧ p = P ∧ q = Q ∧ y7 = bytesOf (s.extract (C + 2) E) ∧ a8 = E + 2 ∧ sh8 = false := by
    intro h h'
    obtain ⟨_, k2, k3, k4, k5⟩ := K1 h
    have hMN : M = N := by rw [hM0, hN0, k2, k3]
    have hle : C + 2 ≤ s.size := by rw [hE0] at h'; omega
    obtain ⟨e5, p5, q5⟩ := g5 (by omega)
    obtain ⟨e6, p6, q6⟩ := g6 (by omega)
    have ha5 : a5 = C := by omega
    rw [bytes_two s a5 (by omega), ha5] at e6
    injection e6 with e6 e7
    injection e7 with e7
    have ep : p = P := by rw [hP]; exact_mod_cast e6
    have eq' : q = Q := by rw [hQ]; exact_mod_cast e7
    have hE : E = C + 2 + L := by rw [hE0, hL0, ep, eq']
    obtain ⟨e7, p7, q7⟩ := g7 (by omega)
    obtain ⟨_, p8, q8⟩ := g8 (by omega)
    have ha6 : a6 = C + 2 := by omega
    refine ⟨by rw [e5, k4, show A + 2 + M = C by omega], ep, eq', by rw [e7, ha6, ← hE], by omega, by rw [q8, q7, q6, q5, k5]⟩
  have V2 : sh8 = false → A + 2 ≤ s.size ∧ E + 2 ≤ s.size := by
    intro h
    obtain ⟨h7, d8⟩ := unshort u8 n8 h
    obtain ⟨h6, d7⟩ := unshort u7 n7 h7
    obtain ⟨h5, d6⟩ := unshort u6 n6 h6
    obtain ⟨h4, d5⟩ := unshort u5 n5 h5
    have h1 := V1 h4
    obtain ⟨_, k2, k3, k4, _⟩ := K1 h1
    have hMN : M = N := by rw [hM0, hN0, k2, k3]
    obtain ⟨_, p5, _⟩ := g5 d5
    obtain ⟨e6, p6, _⟩ := g6 d6
    have ha5 : a5 = C := by omega
    rw [bytes_two s a5 d6, ha5] at e6
    injection e6 with e6 e7
    injection e7 with e7
    have ep : p = P := by rw [hP]; exact_mod_cast e6
    have eq' : q = Q := by rw [hQ]; exact_mod_cast e7
    have hE : E = C + 2 + L := by rw [hE0, hL0, ep, eq']
    obtain ⟨_, p7, _⟩ := g7 d7
    exact ⟨h1, by omega⟩
  cases sh8 with
  | true => exact Ev.pos rfl (Ev.val (zero (X := True) (fun h => by
      have := (K2 h.h1 h.h5).2.2.2.2.2
      cases this)))
  | false =>
    refine Ev.neg (by simp) ?_
    obtain ⟨hh1, hh5⟩ := V2 rfl
    obtain ⟨k1, k2, k3, _, _⟩ := K1 hh1
    obtain ⟨m1, m2, m3, m4, m5, _⟩ := K2 hh1 hh5
    have hle : C + 2 ≤ s.size := by rw [hE0] at hh5; omega
    have hCA : A + 2 + N = C := hC.symm
    have hNs : N ≤ 243 := by rw [hN0, ← k2, ← k3, ← hM0]; exact hM
    subst m1 m2 m3 m4 m5 k1 k2 k3
    have b1 : (s.extract 5 A).size ≤ 140737488351232 := by rw [ext_size' _ _ _ (by omega)]; omega
    have b2 : (bytesOf (s.extract (A + 2) C)).length ≤ 35184372088832 := by rw [bytesOf_len, ext_size' _ _ _ (by omega)]; omega
    have b3 : (bytesOf (s.extract (C + 2) E)).length ≤ 35184372088832 := by rw [bytesOf_len, ext_size' _ _ _ (by omega)]; omega
    have hst := storeSavedImpl (s.extract 5 A) st rc (bytesOf (s.extract (A + 2) C)) p q (bytesOf (s.extract (C + 2) E)) b1 b2 b3
    refine Ev.bind hst ?_
    unfold storeSaved
    by_cases c6 : savedOk (s.extract 5 A) st rc (bytesOf (s.extract (A + 2) C)) p q (bytesOf (s.extract (C + 2) E)) = true
    · rw [if_pos c6]
      refine Ev.pos rfl (Ev.pos (by show (0 : Int) ≤ ((E + 2 : Nat) : Int); omega) (Ev.pos (by show ((E + 2 : Nat) : Int) ≤ (s.size : Int); omega) ?_))
      by_cases c7 : storeB (s.extract 5 A) st rc (bytesOf (s.extract (A + 2) C)) p q (bytesOf (s.extract (C + 2) E)) = s.extract 0 (E + 2)
      · refine Ev.pos (by rw [c7]; rfl) (Ev.val (congrArg some (beginW_ok ⟨hh1, by omega, cR, hle, hh5, c6, c7⟩).symm))
      · refine Ev.neg (fun h => c7 (by
          rw [ByteArray.toList_eq, ByteArray.toList_eq] at h
          exact ByteArray.ext (Array.toList_inj.1 h))) (Ev.val (zero (X := True) (fun h => c7 h.h7)))
    · rw [if_neg c6]
      exact Ev.neg (by simp) (Ev.val (zero (X := True) (fun h => c6 h.h6)))

/-- What LoadSaved answers, of what a text begins with. -/
def loadV (s : ByteArray) (v : ByteArray × Int × Int × List Int × Int × Int × List Int × Int) : ByteArray × Int × Int × List Int × Int × Int × List Int × Bool :=
  if v.2.2.2.2.2.2.2 = 0 then (⟨#[]⟩, 0, 0, [], 0, 0, [], false) else if v.2.2.2.2.2.2.2 = (s.size : Int) then (v.1, v.2.1, v.2.2.1, v.2.2.2.1, v.2.2.2.2.1, v.2.2.2.2.2.1, v.2.2.2.2.2.2.1, true) else (⟨#[]⟩, 0, 0, [], 0, 0, [], false)
theorem ext_le (s : ByteArray) (a b : Nat) : (bytesOf (s.extract a b)).length ≤ s.size := by
  rw [bytesOf_len, ByteArray.size_extract]; omega
theorem beginW_len (s : ByteArray) (A S R C P Q E : Nat) : (beginW s A S R C P Q E).2.2.2.1.length ≤ s.size ∧ (beginW s A S R C P Q E).2.2.2.2.2.2.1.length ≤ s.size := by
  unfold beginW
  split
  · exact ⟨ext_le _ _ _, ext_le _ _ _⟩
  · exact ⟨Nat.zero_le _, Nat.zero_le _⟩
theorem loadV_len (s : ByteArray) (v : ByteArray × Int × Int × List Int × Int × Int × List Int × Int) (h1 : v.2.2.2.1.length ≤ s.size) (h2 : v.2.2.2.2.2.2.1.length ≤ s.size) : (loadV s v).2.2.2.1.length ≤ s.size ∧ (loadV s v).2.2.2.2.2.2.1.length ≤ s.size := by
  unfold loadV
  split
  · exact ⟨Nat.zero_le _, Nat.zero_le _⟩
  · split
    · exact ⟨h1, h2⟩
    · exact ⟨Nat.zero_le _, Nat.zero_le _⟩
/-- What is saved and valid. -/
def SV (x : S68) : Prop := savedOk x.f0 x.f1.f0 x.f1.f1 x.f1.f2 x.f2.f0 x.f2.f1 x.f2.f2 = true
/-- Its bytes. -/
noncomputable def TB (x : S68) : ByteArray := storeB x.f0 x.f1.f0 x.f1.f1 x.f1.f2 x.f2.f0 x.f2.f1 x.f2.f2
noncomputable def TL (x : S68) : List Int := bytesOf (TB x)
noncomputable def catN : List S68 → List Int
  | [] => []
  | x :: l => TL x ++ catN l
theorem catN_append (a b : List S68) : catN (a ++ b) = catN a ++ catN b := by
  induction a with
  | nil => rfl
  | cons x l ih => simp only [List.cons_append, catN, ih, List.append_assoc]
theorem bytesOf_append (a b : ByteArray) : bytesOf (a ++ b) = bytesOf a ++ bytesOf b := by
  unfold bytesOf
  rw [ByteArray.data_append]
  simp
theorem bytesOf_str (xs : List Int) (h : ∀ x ∈ xs, 0 ≤ x ∧ x ≤ 255) : bytesOf (strOfNums xs) = xs := by
  unfold bytesOf strOfNums
  show List.map _ (List.map _ xs) = xs
  rw [List.map_map]
  refine (List.map_congr_left fun x hx => ?_).trans (List.map_id xs)
  have := h x hx
  simp only [Function.comp, id]
  rw [UInt8.toNat_ofNat_of_lt' (by show x.toNat < 256; omega)]
  omega
theorem bytesOf_ext (s : ByteArray) (a b : Nat) : bytesOf (s.extract a b) = ((bytesOf s).drop a).take (b - a) := by
  unfold bytesOf
  rw [Go.Lib.extract_data, List.map_take, List.map_drop]
theorem bytesOf_inj {a b : ByteArray} (h : bytesOf a = bytesOf b) : a = b := by rw [← strOf_bytesOf a, h, strOf_bytesOf]
theorem bn_get (s : ByteArray) (i : Nat) (h : i < s.size) : (bytesOf s)[i]? = some (bn s i : Int) := by
  rw [List.getElem?_eq_getElem (by rw [bytesOf_len]; exact h), bytesOf_get, bt_bn]
theorem mod_id {x : Int} (h0 : 0 ≤ x) (h1 : x ≤ 255) : x % 256 = x := Int.emod_eq_of_lt h0 (by omega)
theorem byL_id (l : List Int) (h : ∀ x ∈ l, 0 ≤ x ∧ x ≤ 255) : byL l = l := by
  unfold byL
  exact (List.map_congr_left fun x hx => mod_id (h x hx).1 (h x hx).2).trans (List.map_id l)
theorem byL_range (l : List Int) : ∀ x ∈ byL l, 0 ≤ x ∧ x ≤ 255 := by
  intro x hx
  obtain ⟨y, _, rfl⟩ := List.mem_map.1 hx
  omega
/-- What is known of what is saved and valid. -/
structure SVF (nm : ByteArray) (s r : Int) (t : List Int) (p q : Int) (l : List Int) : Prop where
  n1 : nm.size ≤ 8
  s1 : 2 ≤ s ∧ s ≤ 3
  r1 : 0 ≤ r ∧ r ≤ 2
  tl : t.length = s.toNat ^ (2 * r.toNat + 1)
  ti : ∀ x ∈ t, 0 ≤ x ∧ x ≤ 2
  p1 : 1 ≤ p ∧ p ≤ 24
  q1 : 1 ≤ q ∧ q ≤ 24
  ll : l.length = p.toNat * q.toNat
  li : ∀ x ∈ l, 0 ≤ x ∧ x ≤ 9
theorem svf {nm : ByteArray} {s r : Int} {t : List Int} {p q : Int} {l : List Int} (h : savedOk nm s r t p q l = true) : SVF nm s r t p q l := by
  unfold savedOk at h
  simp only [Bool.and_eq_true] at h
  obtain ⟨h1, h2, h3⟩ := h
  have h1' := (cd_iff.1 h1).2.2
  unfold validRule at h2
  simp only [Bool.and_eq_true, decide_eq_true_eq] at h2
  obtain ⟨⟨⟨hs, hr⟩, hn⟩, ha⟩ := h2
  unfold validField at h3
  simp only [Bool.and_eq_true, decide_eq_true_eq] at h3
  obtain ⟨⟨⟨hp, hq⟩, hm⟩, hb⟩ := h3
  have ha' := allIn_iff.1 ha
  refine ⟨h1', hs, hr, ?_, fun x hx => ?_, hp, hq, ?_, allIn_iff.1 hb⟩
  · have e1 : s = (s.toNat : Int) := by omega
    rw [show (2 * r + 1).toNat = 2 * r.toNat + 1 by omega, e1, ← Int.natCast_pow] at hn
    have := Int.ofNat.inj hn
    rw [this]
  · have := ha' x hx; omega
  · have e1 : p = (p.toNat : Int) := by omega
    have e2 : q = (q.toNat : Int) := by omega
    rw [e1, e2, ← Int.natCast_mul] at hm
    have := Int.ofNat.inj hm
    rw [this]
/-- Its bytes, as numbers. -/
theorem store_bytes {nm : ByteArray} {s r : Int} {t : List Int} {p q : Int} {l : List Int} (h : SVF nm s r t p q l) : ∃ z : List Int, z.length = 2 ∧ bytesOf (storeB nm s r t p q l) = [67, 69, 76, 49] ++ (nm.size : Int) :: (bytesOf nm ++ s :: r :: (t ++ p :: q :: (l ++ z))) := by
  refine ⟨tailL (chk (strOfNums (storeL nm s r t p q l)) (strOfNums (storeL nm s r t p q l)).size), rfl, ?_⟩
  unfold storeB
  generalize chk (strOfNums (storeL nm s r t p q l)) (strOfNums (storeL nm s r t p q l)).size = c
  have hz : ∀ x ∈ tailL c, 0 ≤ x ∧ x ≤ 255 := by
    intro x hx
    unfold tailL at hx
    simp only [List.mem_cons, List.not_mem_nil, or_false] at hx
    omega
  have hn := h.n1
  have hr0 : ∀ x ∈ storeL nm s r t p q l, 0 ≤ x ∧ x ≤ 255 := by
    intro x hx
    unfold storeL at hx
    simp only [List.mem_append] at hx
    rcases hx with (((((hx | hx) | hx) | hx) | hx) | hx) | hx
    · simp only [List.mem_cons, List.not_mem_nil, or_false] at hx; omega
    · simp only [List.mem_cons, List.not_mem_nil, or_false] at hx; omega
    · exact bytesOf_range _ x hx
    · simp only [List.mem_cons, List.not_mem_nil, or_false] at hx; omega
    · exact byL_range _ x hx
    · simp only [List.mem_cons, List.not_mem_nil, or_false] at hx; omega
    · exact byL_range _ x hx
  rw [bytesOf_str _ (fun x hx => by
    rcases List.mem_append.1 hx with hx | hx
    · exact hr0 x hx
    · exact hz x hx)]
  have h1 := h.s1
  have h2 := h.r1
  have h3 := h.p1
  have h4 := h.q1
  unfold storeL
  rw [byL_id t (fun x hx => by have := h.ti x hx; omega), byL_id l (fun x hx => by have := h.li x hx; omega), mod_id (x := (nm.size : Int)) (by omega) (by omega), mod_id (x := s) (by omega) (by omega), mod_id (x := r) (by omega) (by omega), mod_id (x := p) (by omega) (by omega), mod_id (x := q) (by omega) (by omega)]
  simp
theorem at_len (X Z : List Int) (y : Int) : (X ++ y :: Z)[X.length]? = some y := by simp
theorem idx {u : ByteArray} {X Z : List Int} {y : Int} (i : Nat) (hX : X.length = i) (he : bytesOf u = X ++ y :: Z) : (bn u i : Int) = y := by
  subst hX
  have hl := bytesOf_len u
  rw [he] at hl
  simp only [List.length_append, List.length_cons] at hl
  have h := bn_get u X.length (by omega)
  rw [he, at_len] at h
  exact (Option.some.inj h).symm
theorem cutL {X Y Z : List Int} (a b : Nat) (hX : X.length = a) (hY : a + Y.length = b) : ((X ++ (Y ++ Z)).drop a).take (b - a) = Y := by
  rw [List.drop_left' hX, show b - a = Y.length by omega, List.take_left]
/-- The places in what begins with what is saved. -/
theorem storeOffs {nm : ByteArray} {s r : Int} {t : List Int} {p q : Int} {l : List Int} (h : SVF nm s r t p q l) {u : ByteArray} {R : List Int} (hu : bytesOf u = bytesOf (storeB nm s r t p q l) ++ R) :
    ∃ A N C E : Nat, Offs u A s.toNat r.toNat N C p.toNat q.toNat E ∧ E + 2 = (storeB nm s r t p q l).size ∧ C + 2 ≤ E ∧ A + 2 ≤ C ∧ u.extract 5 A = nm ∧ bytesOf (u.extract (A + 2) C) = t ∧ bytesOf (u.extract (C + 2) E) = l := by
  obtain ⟨z, hz, he⟩ := store_bytes h
  rw [he] at hu
  have hb := bytesOf_len nm
  have hsz := storeB_size nm s r t p q l
  have htl := h.tl
  have hll := h.ll
  have h1 := h.s1
  have h2 := h.r1
  have h3 := h.p1
  have h4 := h.q1
  have i4 : (bn u 4 : Int) = (nm.size : Int) := idx (X := [67, 69, 76, 49]) 4 rfl (by rw [hu]; simp; rfl)
  have iA : (bn u (5 + nm.size) : Int) = s := idx (X := [67, 69, 76, 49] ++ (nm.size : Int) :: bytesOf nm) (5 + nm.size) (by simp [hb]; omega) (by rw [hu]; simp; rfl)
  have iA1 : (bn u (5 + nm.size + 1) : Int) = r := idx (X := [67, 69, 76, 49] ++ (nm.size : Int) :: (bytesOf nm ++ [s])) (5 + nm.size + 1) (by simp [hb]; omega) (by rw [hu]; simp; rfl)
  have iC : (bn u (5 + nm.size + 2 + t.length) : Int) = p := idx (X := [67, 69, 76, 49] ++ (nm.size : Int) :: (bytesOf nm ++ s :: r :: t)) (5 + nm.size + 2 + t.length) (by simp [hb]; omega) (by rw [hu]; simp; rfl)
  have iC1 : (bn u (5 + nm.size + 2 + t.length + 1) : Int) = q := idx (X := [67, 69, 76, 49] ++ (nm.size : Int) :: (bytesOf nm ++ s :: r :: (t ++ [p]))) (5 + nm.size + 2 + t.length + 1) (by simp [hb]; omega) (by rw [hu]; simp; rfl)
  refine ⟨5 + nm.size, s.toNat ^ (2 * r.toNat + 1), 5 + nm.size + 2 + t.length, 5 + nm.size + 2 + t.length + 2 + l.length, ⟨by omega, by omega, by omega, rfl, by rw [htl], by omega, by omega, by rw [hll]⟩, by omega, by omega, by omega, ?_, ?_, ?_⟩
  · apply bytesOf_inj
    rw [bytesOf_ext, hu]
    exact Eq.trans (by simp) (cutL (X := [67, 69, 76, 49, (nm.size : Int)]) (Y := bytesOf nm) (Z := s :: r :: (t ++ p :: q :: (l ++ (z ++ R)))) 5 (5 + nm.size) rfl (by rw [hb]))
  · rw [bytesOf_ext, hu]
    exact Eq.trans (by simp) (cutL (X := [67, 69, 76, 49] ++ (nm.size : Int) :: (bytesOf nm ++ [s, r])) (Y := t) (Z := p :: q :: (l ++ (z ++ R))) (5 + nm.size + 2) (5 + nm.size + 2 + t.length) (by simp [hb]; omega) rfl)
  · rw [bytesOf_ext, hu]
    exact Eq.trans (by simp) (cutL (X := [67, 69, 76, 49] ++ (nm.size : Int) :: (bytesOf nm ++ s :: r :: (t ++ [p, q]))) (Y := l) (Z := z ++ R) (5 + nm.size + 2 + t.length + 2) (5 + nm.size + 2 + t.length + 2 + l.length) (by simp [hb]; omega) rfl)
theorem TL_len (x : S68) : (TL x).length = (TB x).size := bytesOf_len _
/-- What is stored is read again. -/
theorem takenStore (x : S68) (hx : SV x) (u : ByteArray) (R : List Int) (hu : u.size ≤ 1048576) (he : bytesOf u = TL x ++ R) : Ev (fun k => impl_taken.f k u) (x.f0, x.f1.f0, x.f1.f1, x.f1.f2, x.f2.f0, x.f2.f1, x.f2.f2, ((TB x).size : Int)) := by
  have hf := svf hx
  obtain ⟨A, N, C, E, ho, hE, hCE, hAC, e1, e2, e3⟩ := storeOffs hf he
  have hsz : (TB x).size + R.length = u.size := by
    have := congrArg List.length he
    rw [bytesOf_len, List.length_append, TL_len] at this
    omega
  have hE' : E + 2 = (TB x).size := hE
  have h1 := hf.s1
  have h2 := hf.r1
  have h3 := hf.p1
  have h4 := hf.q1
  have z1 : (x.f1.f0.toNat : Int) = x.f1.f0 := by omega
  have z2 : (x.f1.f1.toNat : Int) = x.f1.f1 := by omega
  have z3 : (x.f2.f0.toNat : Int) = x.f2.f0 := by omega
  have z4 : (x.f2.f1.toNat : Int) = x.f2.f1 := by omega
  have hT := takenImpl u hu ho
  rw [beginW_ok ⟨by omega, by omega, by omega, by omega, by omega, by rw [e1, e2, e3, z1, z2, z3, z4]; exact hx, by
    rw [e1, e2, e3, z1, z2, z3, z4]
    apply bytesOf_inj
    rw [bytesOf_ext, he, List.drop_zero, hE', Nat.sub_zero, ← TL_len, List.take_left]
    rfl⟩, e1, e2, e3, z1, z2, z3, z4, hE'] at hT
  exact hT
theorem takenNo {u : ByteArray} (hu : u.size ≤ 1048576) (h : ∀ A S R N C P Q E, Offs u A S R N C P Q E → ¬ BegOk u A S R C P Q E) : Ev (fun k => impl_taken.f k u) (⟨#[]⟩, 0, 0, [], 0, 0, [], 0) := by
  obtain ⟨A, S, R, N, C, P, Q, E, ho⟩ := offs_ex u
  have hT := takenImpl u hu ho
  rw [beginW_no (h _ _ _ _ _ _ _ _ ho)] at hT
  exact hT
/-- A part of what is stored is nothing. -/
theorem takenCut (x : S68) (hx : SV x) (u : ByteArray) (hu : u.size < (TB x).size) (hs : u.size ≤ 1048576) (he : bytesOf u = (TL x).take u.size) : Ev (fun k => impl_taken.f k u) (⟨#[]⟩, 0, 0, [], 0, 0, [], 0) := by
  refine takenNo hs fun A' S' R' N' C' P' Q' E' ho' hok => ?_
  obtain ⟨A, N, C, E, ho, hE, hCE, hAC, _, _, _⟩ := storeOffs (svf hx) (u := TB x) (R := []) (List.append_nil _).symm
  have hE' : E + 2 = (TB x).size := hE
  have hb : ∀ i, i < u.size → bn u i = bn (TB x) i := by
    intro i hi
    have a1 := bn_get u i hi
    have a2 := bn_get (TB x) i (by omega)
    rw [he, List.getElem?_take, if_pos hi] at a1
    have a3 : (TL x)[i]? = some (bn (TB x) i : Int) := a2
    rw [a3] at a1
    have := Option.some.inj a1
    omega
  obtain ⟨hA, hS, hR, hN, hC, hP, hQ, hE0⟩ := ho
  obtain ⟨hA', hS', hR', hN', hC', hP', hQ', hE0'⟩ := ho'
  have k1 := hok.h1
  have k4 := hok.h4
  have k5 := hok.h5
  have eA : A' = A := by rw [hA', hb 4 (by omega), ← hA]
  subst eA
  have eS : S' = x.f1.f0.toNat := by rw [hS', hb A' (by omega), ← hS]
  have eR : R' = x.f1.f1.toNat := by rw [hR', hb (A' + 1) (by omega), ← hR]
  have eN : N' = N := by rw [hN', eS, eR, ← hN]
  have eC : C' = C := by rw [hC', eN, ← hC]
  subst eC
  have eP : P' = x.f2.f0.toNat := by rw [hP', hb C' (by omega), ← hP]
  have eQ : Q' = x.f2.f1.toNat := by rw [hQ', hb (C' + 1) (by omega), ← hQ]
  have eE : E' = E := by rw [hE0', eP, eQ, ← hE0]
  omega
/-- What is taken from a text is something valid that it begins with, or nothing. -/
theorem takenAny (u : ByteArray) (hu : u.size ≤ 1048576) : (∃ x : S68, SV x ∧ Ev (fun k => impl_taken.f k u) (x.f0, x.f1.f0, x.f1.f1, x.f1.f2, x.f2.f0, x.f2.f1, x.f2.f2, ((TB x).size : Int)) ∧ (TB x).size ≤ u.size ∧ 0 < (TB x).size ∧ (bytesOf u).take (TB x).size = TL x) ∨ Ev (fun k => impl_taken.f k u) (⟨#[]⟩, 0, 0, [], 0, 0, [], 0) := by
  obtain ⟨A, S, R, N, C, P, Q, E, ho⟩ := offs_ex u
  have hT := takenImpl u hu ho
  by_cases hok : BegOk u A S R C P Q E
  · left
    rw [beginW_ok hok] at hT
    have h5 := hok.h5
    have hz : (storeB (u.extract 5 A) S R (bytesOf (u.extract (A + 2) C)) P Q (bytesOf (u.extract (C + 2) E))).size = E + 2 := by
      rw [hok.h7, ext_size' _ _ _ h5]; omega
    refine ⟨⟨u.extract 5 A, ⟨S, R, bytesOf (u.extract (A + 2) C)⟩, ⟨P, Q, bytesOf (u.extract (C + 2) E)⟩⟩, hok.h6, ?_, ?_, ?_, ?_⟩
    · unfold TB
      rw [hz]
      exact hT
    · unfold TB; rw [hz]; exact h5
    · unfold TB; rw [hz]; omega
    · unfold TL TB
      rw [hz, hok.h7, bytesOf_ext, List.drop_zero, Nat.sub_zero]
  · right
    rw [beginW_no hok] at hT
    exact hT

theorem slicesEqual (l m : List Int) (hl : l.length ≤ 35184372088832) : Ev (fun k => slices_Equal_int64_int64.f k l m) (decide (l = m)) := by
  unfold slices_Equal_int64_int64.f
  by_cases h : l.length = m.length
  · refine Ev.pos (by omega) ?_
    refine Ev.upto l.length (fun i => ∀ j, j < i → l[j]? = m[j]?) (fun _ => ()) _ (fun k _ i => slices_Equal_int64_int64.l0 k l m l.length i) (fun i hi hp ih => ?_) (fun hp => ?_) (fun j hj => by omega)
    · refine Ev.succ ?_
      simp only [slices_Equal_int64_int64.l0]
      refine Ev.pos (by omega) (Ev.pos (by omega) (Ev.pos (by omega) (Ev.pos (by omega) ?_)))
      rw [rd_lt l i (by omega), rd_lt m i (by omega)]
      by_cases e : l[i] = m[i]
      · refine Ev.pos e ?_
        rw [wrap_id (by omega) (by omega)]
        exact ih (fun j hj' => by
          by_cases hji : j < i
          · exact hp j hji
          · obtain rfl : j = i := by omega
            rw [List.getElem?_eq_getElem (by omega), List.getElem?_eq_getElem (by omega), e])
      · refine Ev.neg e (Ev.val ?_)
        rw [eq_comm, Option.some.injEq, decide_eq_false_iff_not]
        rintro rfl
        exact e rfl
    · refine Ev.succ ?_
      simp only [slices_Equal_int64_int64.l0]
      refine Ev.neg (by omega) (Ev.val ?_)
      have : l = m := List.ext_getElem? (fun j => by
        by_cases hjl : j < l.length
        · exact hp j (by omega)
        · rw [List.getElem?_eq_none (by omega), List.getElem?_eq_none (by omega)])
      simp [this]
  · refine Ev.neg (by omega) (Ev.val ?_)
    rw [eq_comm, Option.some.injEq, decide_eq_false_iff_not]
    rintro rfl
    exact h rfl

theorem sameField (s r : Int) (t : List Int) (s' r' : Int) (t' : List Int) (hl : t.length ≤ 35184372088832) : Ev (fun k => impl_SameField.f k s r t s' r' t') (decide (s = s' ∧ r = r' ∧ t = t')) := by
  unfold impl_SameField.f
  exact Ev.cast (Ev.andP (fun _ => Ev.andP (fun _ => Ev.ret (slicesEqual t t' hl)))) (by simp only [Bool.decide_and])

theorem tb_small {x : S68} (hx : SV x) : 0 < (TB x).size ∧ (TB x).size ≤ 1000 := by
  have h := svf hx
  have hz : (TB x).size = x.f0.size + x.f1.f2.length + x.f2.f2.length + 11 := storeB_size _ _ _ _ _ _ _
  have h0 := h.n1
  have h1 := h.s1
  have h2 := h.r1
  have h3 := h.p1
  have h4 := h.q1
  have t1 : x.f1.f2.length ≤ 243 := by rw [h.tl]; exact pow_small (by omega) (by omega)
  have t2 : x.f2.f2.length ≤ 24 * 24 := by rw [h.ll]; exact Nat.mul_le_mul (by omega) (by omega)
  omega
theorem catN_len (L : List S68) (h : ∀ x ∈ L, SV x) : (catN L).length ≤ 1000 * L.length := by
  induction L with
  | nil => simp [catN]
  | cons x l ih =>
    have h1 := tb_small (h x (.head _))
    have h2 := ih (fun y hy => h y (.tail _ hy))
    simp only [catN, List.length_append, List.length_cons, TL_len]
    omega
theorem ext_bytes (s : ByteArray) (a : Nat) : bytesOf (s.extract a s.size) = (bytesOf s).drop a := by
  rw [bytesOf_ext, List.take_of_length_le]
  rw [List.length_drop, bytesOf_len]
  exact Nat.le_refl _
theorem ext_sz (s : ByteArray) (a : Nat) : (s.extract a s.size).size = s.size - a := by rw [ByteArray.size_extract]; omega
theorem recStep {s : ByteArray} (hs : s.size ≤ 1048576) {x : S68} (hx : SV x) {acc : List S68} (ha : acc.length < 8) {a : Nat} {R : List Int} (he : (bytesOf s).drop a = TL x ++ R) {r : List S68 × Int × Bool} (h : Ev (fun k => impl_RecoverAll.l0 k s (acc ++ [x]) ((a + (TB x).size : Nat) : Int)) r) : Ev (fun k => impl_RecoverAll.l0 k s acc (a : Int)) r := by
  have hz := tb_small hx
  have hl := congrArg List.length he
  rw [List.length_drop, List.length_append, TL_len, bytesOf_len] at hl
  have ht := takenStore x hx (s.extract a s.size) R (by rw [ext_sz]; omega) (by rw [ext_bytes, he])
  refine Ev.succ ?_
  simp only [impl_RecoverAll.l0]
  rw [Int.toNat_natCast]
  refine Ev.pos (by omega) (Ev.pos (by omega) (Ev.pos (by omega) (Ev.bind ht (Ev.neg (by show ¬ ((TB x).size : Int) = 0; omega) (Ev.pos (by omega) ?_)))))
  rw [wrapTo (x := (a : Int) + ((TB x).size : Int)) (y := ((a + (TB x).size : Nat) : Int)) (by omega) (by omega) (by omega)]
  exact h
theorem recStop {s : ByteArray} {acc : List S68} (ha : acc.length < 8) {a : Nat} (hle : a ≤ s.size) (ht : Ev (fun k => impl_taken.f k (s.extract a s.size)) (⟨#[]⟩, 0, 0, [], 0, 0, [], 0)) : Ev (fun k => impl_RecoverAll.l0 k s acc (a : Int)) (acc, (a : Int), true) := by
  refine Ev.succ ?_
  simp only [impl_RecoverAll.l0]
  rw [Int.toNat_natCast]
  exact Ev.pos (by omega) (Ev.pos (by omega) (Ev.pos (by omega) (Ev.bind ht (Ev.pos rfl (Ev.now _)))))
theorem recFull {s : ByteArray} {acc : List S68} (ha : acc.length = 8) (a : Nat) : Ev (fun k => impl_RecoverAll.l0 k s acc (a : Int)) (acc, (a : Int), true) := by
  refine Ev.succ ?_
  simp only [impl_RecoverAll.l0]
  exact Ev.neg (by omega) (Ev.now _)
theorem recRun {s : ByteArray} (hs : s.size ≤ 1048576) {r : List S68 × Int × Bool} (L : List S68) : ∀ (acc : List S68) (a : Nat) (R : List Int), (∀ x ∈ L, SV x) → acc.length + L.length ≤ 8 → (bytesOf s).drop a = catN L ++ R → Ev (fun k => impl_RecoverAll.l0 k s (acc ++ L) ((a + (catN L).length : Nat) : Int)) r → Ev (fun k => impl_RecoverAll.l0 k s acc (a : Int)) r := by
  induction L with
  | nil => intro acc a R _ _ _ h; simpa [catN] using h
  | cons x l ih =>
    intro acc a R hv hn he h
    simp only [List.length_cons] at hn
    simp only [catN] at he h
    rw [List.append_assoc] at he
    refine recStep hs (hv x (.head _)) (by omega) he (ih (acc ++ [x]) (a + (TB x).size) R (fun y hy => hv y (.tail _ hy)) (by simp; omega) ?_ ?_)
    · rw [← List.drop_drop, he, ← TL_len, List.drop_left]
    · rw [List.append_assoc, List.singleton_append]
      rw [List.length_append, TL_len] at h
      rw [show a + (TB x).size + (catN l).length = a + ((TB x).size + (catN l).length) by omega]
      exact h
theorem recAny {s : ByteArray} (hs : s.size ≤ 1048576) (d : Nat) : ∀ (acc : List S68) (a : Nat), acc.length + d = 8 → a ≤ s.size → ∃ (L : List S68) (o : Nat), Ev (fun k => impl_RecoverAll.l0 k s acc (a : Int)) (acc ++ L, (o : Int), true) ∧ a ≤ o ∧ o ≤ s.size ∧ (∀ x ∈ L, SV x) ∧ ((bytesOf s).drop a).take (o - a) = catN L ∧ L.length ≤ d := by
  induction d with
  | zero =>
    intro acc a hn ha
    exact ⟨[], a, by rw [List.append_nil]; exact recFull (by omega) a, Nat.le_refl _, ha, by simp, by simp [catN], Nat.le_refl _⟩
  | succ d ih =>
    intro acc a hn ha
    rcases takenAny (s.extract a s.size) (by rw [ext_sz]; omega) with ⟨x, hx, ht, hz, hz0, hb⟩ | ht
    · rw [ext_sz] at hz
      rw [ext_bytes] at hb
      have he : (bytesOf s).drop a = TL x ++ (bytesOf s).drop (a + (TB x).size) := by
        rw [← List.drop_drop, ← hb, List.take_append_drop]
      obtain ⟨L, o, h1, h2, h3, h4, h5, h6⟩ := ih (acc ++ [x]) (a + (TB x).size) (by simp; omega) (by omega)
      refine ⟨x :: L, o, recStep hs hx (by omega) he ?_, by omega, h3, fun y hy => ?_, ?_, by simp; omega⟩
      · rw [List.append_assoc, List.singleton_append] at h1; exact h1
      · rcases List.mem_cons.1 hy with rfl | hy
        · exact hx
        · exact h4 y hy
      · simp only [catN]
        rw [he, List.take_append, ← h5, List.take_of_length_le (by rw [TL_len]; omega), TL_len]
        congr 2
        omega
    · exact ⟨[], a, by rw [List.append_nil]; exact recStop (by omega) ha ht, Nat.le_refl _, ha, by simp, by simp [catN], Nat.zero_le _⟩
theorem rd68 (l : List S68) (i : Nat) (h : i < l.length) : rd_T68 l (i : Int) = l[i] := by
  unfold rd_T68; rw [Int.toNat_natCast, List.getD_eq_getElem?_getD, List.getElem?_eq_getElem h]; rfl
theorem sv_bounds {x : S68} (hx : SV x) : x.f0.size ≤ 1000 ∧ x.f1.f2.length ≤ 1000 ∧ x.f2.f2.length ≤ 1000 := by
  have h := tb_small hx
  have hz : (TB x).size = x.f0.size + x.f1.f2.length + x.f2.f2.length + 11 := storeB_size _ _ _ _ _ _ _
  omega
theorem storeImplX {x : S68} (hx : SV x) : Ev (fun k => impl_StoreSaved.f k x.f0 x.f1.f0 x.f1.f1 x.f1.f2 x.f2.f0 x.f2.f1 x.f2.f2) (TB x, true) := by
  have h := sv_bounds hx
  have := storeSavedImpl x.f0 x.f1.f0 x.f1.f1 x.f1.f2 x.f2.f0 x.f2.f1 x.f2.f2 (by omega) (by omega) (by omega)
  unfold storeSaved at this
  have hx' : savedOk x.f0 x.f1.f0 x.f1.f1 x.f1.f2 x.f2.f0 x.f2.f1 x.f2.f2 = true := hx
  rw [if_pos hx'] at this
  exact this
theorem storeAllImpl (L : List S68) (hv : ∀ x ∈ L, SV x) (h8 : L.length ≤ 8) : Ev (fun k => impl_StoreAll.f k L) (strOfNums (catN L), true) := by
  unfold impl_StoreAll.f
  refine Ev.neg (by omega) ?_
  refine Ev.congr (fun k => ?_) (Ev.upto L.length (fun _ => True) (fun i => strOfNums (catN (L.take i))) (strOfNums (catN L), true) (fun k b i => impl_StoreAll.l0 k b L L.length i) (fun i hi _ ih => ?_) (fun _ => ?_) trivial)
  · simp [catN, strOfNums]
  · refine Ev.succ ?_
    simp only [impl_StoreAll.l0]
    have hx := hv L[i] (List.getElem_mem hi)
    have hc := catN_len (L.take i) (fun x h => hv x (List.mem_of_mem_take h))
    rw [List.length_take] at hc
    have hz := tb_small hx
    rw [rd68 L i hi, wrap_id (x := (i : Int) + 1) (by omega) (by omega)]
    refine Ev.pos (by omega) (Ev.pos (by omega) (Ev.pos (by omega) (Ev.bind (storeImplX hx) (Ev.pos rfl (Ev.pos ?_ ?_)))))
    · show (strOfNums (catN (L.take i))).size + (TB L[i]).size ≤ _
      rw [str_size]; omega
    · have ih' := ih trivial
      rw [List.take_succ_eq_append_getElem hi, catN_append, strOf_append] at ih'
      have e : strOfNums (catN [L[i]]) = TB L[i] := by
        simp only [catN, List.append_nil]
        unfold TL
        exact strOf_bytesOf _
      rw [e] at ih'
      exact ih'
  · refine Ev.succ ?_
    simp only [impl_StoreAll.l0]
    rw [List.take_length]
    exact Ev.neg (by omega) (Ev.now _)
theorem sameRule (s r : Int) (t : List Int) (hl : t.length ≤ 35184372088832) : Ev (fun k => impl_SameRule.f k s r t s r t) true := by
  unfold impl_SameRule.f
  exact Ev.pos rfl (Ev.pos rfl (Ev.bind (slicesEqual t t hl) (Ev.val (by simp))))
theorem sameSavedRefl (L : List S68) (hv : ∀ x ∈ L, SV x) (h8 : L.length ≤ 8) : Ev (fun k => impl_SameSaved.f k L L) true := by
  unfold impl_SameSaved.f impl_Saved_impl_SameSaved_1.f
  refine Ev.bind (a := true) (Ev.pos rfl ?_) (Ev.now _)
  refine Ev.upto L.length (fun _ => True) (fun _ => ()) true (fun k _ i => impl_Saved_impl_SameSaved_1.l0 k L L L.length i) (fun i hi _ ih => ?_) (fun _ => ?_) trivial
  · refine Ev.succ ?_
    simp only [impl_Saved_impl_SameSaved_1.l0]
    have hx := sv_bounds (hv L[i] (List.getElem_mem hi))
    rw [rd68 L i hi, wrap_id (x := (i : Int) + 1) (by omega) (by omega)]
    refine Ev.pos (by omega) (Ev.pos (by omega) (Ev.pos (by omega) (Ev.pos (by omega) (Ev.bind (a := true) ?_ (Ev.pos rfl (ih trivial))))))
    unfold impl_SameSaved_1.f
    refine Ev.pos rfl (Ev.bind (sameRule _ _ _ (by omega)) (Ev.pos rfl (Ev.bind (sameField _ _ _ _ _ _ (by omega)) (Ev.val (by simp)))))
  · refine Ev.succ ?_
    simp only [impl_Saved_impl_SameSaved_1.l0]
    exact Ev.neg (by omega) (Ev.now _)
theorem loadImplX {x : S68} (hx : SV x) : Ev (fun k => impl_LoadSaved.f k (TB x)) (x.f0, x.f1.f0, x.f1.f1, x.f1.f2, x.f2.f0, x.f2.f1, x.f2.f2, true) := by
  have hz := tb_small hx
  unfold impl_LoadSaved.f
  exact Ev.bind (takenStore x hx (TB x) [] (by omega) (List.append_nil _).symm) (Ev.neg (by show ¬ ((TB x).size : Int) = 0; omega) (Ev.pos rfl (Ev.now _)))

/-- Bytes. -/
def Bytes (l : List Int) : Prop := ∀ x ∈ l, 0 ≤ x ∧ x ≤ 255
theorem Bytes.of {l : List Int} (h : ∀ x ∈ l, (Lit.int .u8 x).wf = true) : Bytes l := by
  intro x hx
  have := h x hx
  simp only [Lit.wf, Bool.and_eq_true, decide_eq_true_eq] at this
  have h1 : x ≤ 255 := this.2
  have h0 : 0 ≤ x := this.1
  exact ⟨h0, h1⟩
theorem u64_wrap (n : Int) : IntKind.u64.wrap n = n % 18446744073709551616 := by simp [IntKind.wrap, IntKind.bits, IntKind.signed]
theorem src_high (z : Int) : 0 ≤ Go.bits .and .u64 (IntKind.u64.wrap z / 1099511627776) 255 ∧ Go.bits .and .u64 (IntKind.u64.wrap z / 1099511627776) 255 ≤ 255 := by
  have h0 : 0 ≤ IntKind.u64.wrap z := by rw [u64_wrap]; omega
  have h1 : IntKind.u64.wrap z < 18446744073709551616 := by rw [u64_wrap]; omega
  have e := bits_mask .u64 24 (by decide) (fun n h0 h1 => by rw [u64_wrap]; omega) 8 (by decide) (IntKind.u64.wrap z / 1099511627776) (by omega) (by omega)
  rw [show (255 : Int) = 2 ^ 8 - 1 from by decide]
  rw [e]
  omega
/-- The next byte. -/
theorem srcNext (l : List Int) (hb : Bytes l) (hl : l.length ≤ 140737488351232) (at_ seed : Int) (h0 : 0 ≤ at_) (h1 : at_ ≤ 1000000000000000) : ∃ x s, spec_l00Src_next.f l at_ seed = some (x, at_ + 1, s) ∧ 0 ≤ x ∧ x ≤ 255 := by
  unfold spec_l00Src_next.f
  rw [wrap_id (x := at_ + 1) (by omega) (by omega)]
  by_cases c : at_ < (l.length : Int)
  · have hx := hb _ (rd_mem l at_ h0 c)
    rw [if_pos c, if_pos h0, if_pos (by omega), wrap_id (x := rd l at_) (by omega) (by omega)]
    exact ⟨_, _, rfl, hx.1, hx.2⟩
  · rw [if_neg c, if_neg (by omega)]
    have h := src_high (IntKind.u64.wrap ((IntKind.u64.wrap (seed * 6364136223846793005))) + 1442695040888963407)
    rw [wrap_id (by omega) (by omega)]
    exact ⟨_, _, rfl, h.1, h.2⟩
/-- A number below n. -/
theorem srcPick (l : List Int) (hb : Bytes l) (hl : l.length ≤ 140737488351232) (at_ seed : Int) (h0 : 0 ≤ at_) (h1 : at_ ≤ 100000000000000) (n : Int) (hn : 1 ≤ n) (hm : n ≤ 200) : ∃ x a s, spec_l00Src_pick.f l at_ seed n = some (x, a, s) ∧ 0 ≤ x ∧ x < n ∧ 0 ≤ a ∧ a ≤ at_ + 1 := by
  unfold spec_l00Src_pick.f
  by_cases c : n ≤ 1
  · rw [if_pos c]
    exact ⟨_, _, _, rfl, by omega, by omega, h0, by omega⟩
  · obtain ⟨x, s, e, hx0, hx1⟩ := srcNext l hb hl at_ seed h0 (by omega)
    rw [if_neg c, e]
    simp only [Option.bind_some]
    rw [if_neg (by omega), if_neg (by omega), Int.tmod_eq_emod_of_nonneg hx0]
    exact ⟨_, _, _, rfl, Int.emod_nonneg _ (by omega), Int.emod_lt_of_pos _ (by omega), by omega, by omega⟩

/-- A number below n, up to 1000. -/
theorem srcPick2 (l : List Int) (hb : Bytes l) (hl : l.length ≤ 140737488351232) (at_ seed : Int) (h0 : 0 ≤ at_) (h1 : at_ ≤ 100000000000000) (n : Int) (hn : 1 ≤ n) (hm : n ≤ 1000) : ∃ x a s, spec_l00Src_pick.f l at_ seed n = some (x, a, s) ∧ 0 ≤ x ∧ x < n ∧ 0 ≤ a ∧ a ≤ at_ + 2 := by
  by_cases c2 : n ≤ 200
  · obtain ⟨x, a, s, h, p1, p2, p3, p4⟩ := srcPick l hb hl at_ seed h0 h1 n hn c2
    exact ⟨x, a, s, h, p1, p2, p3, by omega⟩
  · unfold spec_l00Src_pick.f
    obtain ⟨x, s, e, hx0, hx1⟩ := srcNext l hb hl at_ seed h0 (by omega)
    obtain ⟨y, s2, e2, hy0, hy1⟩ := srcNext l hb hl (at_ + 1) s (by omega) (by omega)
    rw [if_neg (by omega), e]
    simp only [Option.bind_some]
    rw [if_pos (by omega), e2]
    simp only [Option.bind_some]
    rw [if_neg (by omega), wrap_id (x := x * 256) (by omega) (by omega), wrap_id (x := x * 256 + y) (by omega) (by omega), Int.tmod_eq_emod_of_nonneg (by omega)]
    exact ⟨_, _, _, rfl, Int.emod_nonneg _ (by omega), Int.emod_lt_of_pos _ (by omega), by omega, by omega⟩
theorem drawSides (l : List Int) (hb : Bytes l) (hl : l.length ≤ 140737488351232) (q r c : Int) (hq : 1 ≤ q) (hq2 : q ≤ 200) : ∀ (d : Nat) (at_ s : Int) (acc : List Int), 0 ≤ at_ → at_ + d ≤ 1000000 → acc.length + d ≤ 1000000 →
    ∃ xs a t, Ev (fun k => spec_l02DrawSides.l0 k q d l at_ s r c acc) (r, c, acc ++ xs, a, t) ∧ xs.length = d ∧ (∀ x ∈ xs, 0 ≤ x ∧ x < q) ∧ 0 ≤ a ∧ a ≤ at_ + d := by
  intro d
  induction d with
  | zero =>
    intro at_ s acc h0 h1 h2
    refine ⟨[], at_, s, Ev.succ ?_, rfl, by simp, h0, by omega⟩
    simp only [spec_l02DrawSides.l0]
    exact Ev.neg (by simp) (Ev.val (by simp))
  | succ d ih =>
    intro at_ s acc h0 h1 h2
    obtain ⟨x, a, t, e, hx0, hx1, ha0, ha1⟩ := srcPick l hb hl at_ s h0 (by omega) q hq hq2
    obtain ⟨xs, a2, t2, h, hlen, hxs, b0, b1⟩ := ih a t (acc ++ [x]) ha0 (by push_cast at h1; omega) (by rw [List.length_append, List.length_singleton]; omega)
    refine ⟨x :: xs, a2, t2, Ev.succ ?_, by simp [hlen], ?_, b0, by push_cast; omega⟩
    · simp only [spec_l02DrawSides.l0]
      have ed : ((d + 1 : Nat) : Int) - 1 = (d : Int) := by omega
      rw [wrap_id (x := ((d + 1 : Nat) : Int) - 1) (by omega) (by omega), ed]
      refine Ev.pos (by omega) (Ev.bnd e (Ev.pos (by omega) ?_))
      rw [List.append_assoc, List.singleton_append] at h
      exact h
    · intro y hy
      rcases List.mem_cons.1 hy with rfl | hy
      · exact ⟨hx0, hx1⟩
      · exact hxs y hy
theorem drawStates2 (l : List Int) (hb : Bytes l) (hl : l.length ≤ 140737488351232) (q r c : Int) (hq : 1 ≤ q) (hq2 : q ≤ 200) : ∀ (d : Nat) (at_ s : Int) (acc : List Int), 0 ≤ at_ → at_ + d ≤ 1000000 → acc.length + d ≤ 1000000 →
    ∃ xs a t, Ev (fun k => spec_l04DrawStates.l0 k q d l at_ s r c acc) (r, c, acc ++ xs, a, t) ∧ xs.length = d ∧ (∀ x ∈ xs, 0 ≤ x ∧ x < q) ∧ 0 ≤ a ∧ a ≤ at_ + d := by
  intro d
  induction d with
  | zero =>
    intro at_ s acc h0 h1 h2
    refine ⟨[], at_, s, Ev.succ ?_, rfl, by simp, h0, by omega⟩
    simp only [spec_l04DrawStates.l0]
    exact Ev.neg (by simp) (Ev.val (by simp))
  | succ d ih =>
    intro at_ s acc h0 h1 h2
    obtain ⟨x, a, t, e, hx0, hx1, ha0, ha1⟩ := srcPick l hb hl at_ s h0 (by omega) q hq hq2
    obtain ⟨xs, a2, t2, h, hlen, hxs, b0, b1⟩ := ih a t (acc ++ [x]) ha0 (by push_cast at h1; omega) (by rw [List.length_append, List.length_singleton]; omega)
    refine ⟨x :: xs, a2, t2, Ev.succ ?_, by simp [hlen], ?_, b0, by push_cast; omega⟩
    · simp only [spec_l04DrawStates.l0]
      have ed : ((d + 1 : Nat) : Int) - 1 = (d : Int) := by omega
      rw [wrap_id (x := ((d + 1 : Nat) : Int) - 1) (by omega) (by omega), ed]
      refine Ev.pos (by omega) (Ev.bnd e (Ev.pos (by omega) ?_))
      rw [List.append_assoc, List.singleton_append] at h
      exact h
    · intro y hy
      rcases List.mem_cons.1 hy with rfl | hy
      · exact ⟨hx0, hx1⟩
      · exact hxs y hy
theorem ruleTab : ∀ i : Fin 256, (spec_RuleOfNumber.f 12 (i.val : Int)).map (fun v => validRule v.1 v.2.1 v.2.2.1) = some true := by decide +kernel
theorem ruleOfNumber (n : Int) (h0 : 0 ≤ n) (h1 : n < 256) : ∃ v, Ev (fun k => spec_RuleOfNumber.f k n) v ∧ validRule v.1 v.2.1 v.2.2.1 = true := by
  obtain ⟨m, rfl⟩ := Int.eq_ofNat_of_zero_le h0
  have hm : m < 256 := by omega
  have ht := ruleTab ⟨m, hm⟩
  obtain ⟨v, hv, he⟩ := Option.map_eq_some_iff.1 ht
  exact ⟨v, Ev.of_mono (fun k => spec_RuleOfNumber.mono _ k) 12 hv, he⟩
theorem rule_of_sides {S R : Nat} {xs : List Int} (hS : 2 ≤ S ∧ S ≤ 3) (hR : R ≤ 2) (hl : xs.length = S ^ (2 * R + 1)) (hx : ∀ x ∈ xs, 0 ≤ x ∧ x < (S : Int)) : validRule S R xs = true := by
  unfold validRule
  simp only [Bool.and_eq_true, decide_eq_true_eq]
  refine ⟨⟨⟨by omega, by omega⟩, ?_⟩, allIn_iff.2 fun x h => by have := hx x h; omega⟩
  rw [hl, show (2 * (R : Int) + 1).toNat = 2 * R + 1 by omega, Int.natCast_pow]
theorem sidesEx (l : List Int) (hb : Bytes l) (hl : l.length ≤ 140737488351232) (S R : Nat) (hS : 2 ≤ S ∧ S ≤ 3) (hR : R ≤ 2) (at_ s : Int) (h0 : 0 ≤ at_) (h1 : at_ ≤ 900000) :
    ∃ xs a t, Ev (fun k => spec_l02DrawSides.f k l at_ s S R) ((S : Int), (R : Int), xs, a, t) ∧ validRule S R xs = true ∧ 0 ≤ a ∧ a ≤ at_ + 243 := by
  have hN := pow_small hS hR
  obtain ⟨xs, a, t, h, hlen, hxs, b0, b1⟩ := drawSides l hb hl (S : Int) (S : Int) (R : Int) (by omega) (by omega) (S ^ (2 * R + 1)) at_ s [] h0 (by omega) (by simp; omega)
  refine ⟨xs, a, t, ?_, rule_of_sides hS hR hlen hxs, b0, by omega⟩
  unfold spec_l02DrawSides.f
  have hp := l02Powers (S : Int) (2 * (R : Int) + 1) (by omega) (by omega) (by omega) (by omega)
  rw [show (2 * (R : Int) + 1).toNat = 2 * R + 1 by omega, ← Int.natCast_pow] at hp
  rw [wrapTo (x := 2 * (R : Int)) (y := 2 * (R : Int)) rfl (by omega) (by omega), wrapTo (x := 2 * (R : Int) + 1) (y := 2 * (R : Int) + 1) rfl (by omega) (by omega)]
  exact Ev.bind hp h
theorem drawRule (l : List Int) (hb : Bytes l) (hl : l.length ≤ 140737488351232) (at_ s : Int) (h0 : 0 ≤ at_) (h1 : at_ ≤ 800000) :
    ∃ st rc xs a t, Ev (fun k => spec_l02DrawOk.f k l at_ s) (st, rc, xs, a, t) ∧ validRule st rc xs = true ∧ 0 ≤ a ∧ a ≤ at_ + 1000 := by
  unfold spec_l02DrawOk.f spec_l00Src_one.f
  obtain ⟨x, a, t, e, hx0, hx1, ha0, ha1⟩ := srcPick2 l hb hl at_ s h0 (by omega) 2 (by omega) (by omega)
  by_cases c : (x == 0) = true
  · obtain ⟨y, a2, t2, e2, hy0, hy1, hb0, hb1⟩ := srcPick2 l hb hl a t ha0 (by omega) 256 (by omega) (by omega)
    obtain ⟨v, hv, hw⟩ := ruleOfNumber y hy0 hy1
    exact ⟨v.1, v.2.1, v.2.2.1, a2, t2, Ev.bnd (by rw [e]; rfl) (Ev.pos c (Ev.bnd e2 (Ev.bind hv (Ev.now _)))), hw, hb0, by omega⟩
  · obtain ⟨y, a2, t2, e2, hy0, hy1, hb0, hb1⟩ := srcPick2 l hb hl a t ha0 (by omega) 2 (by omega) (by omega)
    obtain ⟨z, a3, t3, e3, hz0, hz1, hc0, hc1⟩ := srcPick2 l hb hl a2 t2 hb0 (by omega) 2 (by omega) (by omega)
    rcases (by omega : y = 0 ∨ y = 1) with rfl | rfl
    · obtain ⟨w, a4, t4, e4, hw0, hw1, hd0, hd1⟩ := srcPick2 l hb hl a3 t3 hc0 (by omega) 3 (by omega) (by omega)
      obtain ⟨W, rfl⟩ := Int.eq_ofNat_of_zero_le hw0
      have w2 : wrap64 (2 + 0) = ((2 : Nat) : Int) := wrapTo (by rfl) (by omega) (by omega)
      obtain ⟨xs, a5, t5, h, hval, he0, he1⟩ := sidesEx l hb hl 2 W (by omega) (by omega) a4 t4 hd0 (by omega)
      exact ⟨_, _, xs, a5, t5, Ev.bnd (by rw [e]; rfl) (Ev.neg c (Ev.bnd e2 (Ev.bnd e3 (Ev.pos (wrapTo (by rfl) (by omega) (by omega)) (Ev.bnd e4 (Ev.bind (a := (((2 : Nat) : Int), ((W : Nat) : Int), xs, a5, t5)) (by show Ev (fun n => spec_l02DrawSides.f n l a4 t4 (wrap64 (2 + 0)) (W : Int)) _; rw [w2]; exact h) (Ev.now _))))))), hval, he0, by omega⟩
    · obtain ⟨Z, rfl⟩ := Int.eq_ofNat_of_zero_le hz0
      have w3 : wrap64 (2 + 1) = ((3 : Nat) : Int) := wrapTo (by rfl) (by omega) (by omega)
      obtain ⟨xs, a5, t5, h, hval, he0, he1⟩ := sidesEx l hb hl 3 Z (by omega) (by omega) a3 t3 hc0 (by omega)
      exact ⟨_, _, xs, a5, t5, Ev.bnd (by rw [e]; rfl) (Ev.neg c (Ev.bnd e2 (Ev.bnd e3 (Ev.neg (by show ¬ wrap64 (2 + 1) = 2; rw [wrap_id (by omega) (by omega)]; omega) (Ev.bind (a := (((3 : Nat) : Int), ((Z : Nat) : Int), xs, a5, t5)) (by show Ev (fun n => spec_l02DrawSides.f n l a3 t3 (wrap64 (2 + 1)) (Z : Int)) _; rw [w3]; exact h) (Ev.now _)))))), hval, he0, by omega⟩
theorem drawField (l : List Int) (hb : Bytes l) (hl : l.length ≤ 140737488351232) (R C : Nat) (hR : 1 ≤ R ∧ R ≤ 24) (hC : 1 ≤ C ∧ C ≤ 24) (at_ s : Int) (h0 : 0 ≤ at_) (h1 : at_ ≤ 900000) :
    ∃ xs a t, Ev (fun k => spec_l04DrawOk.f k l at_ s R C) ((R : Int), (C : Int), xs, a, t) ∧ validField R C xs = true ∧ 0 ≤ a ∧ a ≤ at_ + 576 := by
  have hm : R * C ≤ 24 * 24 := Nat.mul_le_mul hR.2 hC.2
  obtain ⟨xs, a, t, h, hlen, hxs, b0, b1⟩ := drawStates2 l hb hl 2 (R : Int) (C : Int) (by omega) (by omega) (R * C) at_ s [] h0 (by omega) (by simp; omega)
  refine ⟨xs, a, t, ?_, ?_, b0, by omega⟩
  · unfold spec_l04DrawOk.f spec_l04DrawStates.f
    rw [← Int.natCast_mul, wrapN _ (by omega)]
    exact Ev.bind h (Ev.now _)
  · unfold validField
    simp only [Bool.and_eq_true, decide_eq_true_eq]
    exact ⟨⟨⟨by omega, by omega⟩, by rw [hlen, Int.natCast_mul]⟩, allIn_iff.2 fun x h => by have := hxs x h; omega⟩
theorem names4 : ∀ i : Fin 4, nameOk (rdOf ByteArray.empty [(⟨#[97]⟩ : ByteArray), (⟨#[103, 108, 105, 100, 101, 114]⟩ : ByteArray), (⟨#[119, 97, 118, 101]⟩ : ByteArray), (⟨#[122, 122]⟩ : ByteArray)] (i.val : Int)) := by
  unfold nameOk
  decide +kernel
theorem drawName (l : List Int) (hb : Bytes l) (hl : l.length ≤ 140737488351232) (at_ s : Int) (h0 : 0 ≤ at_) (h1 : at_ ≤ 900000) :
    ∃ nm a t, spec_l00Src_text.f l at_ s [(⟨#[97]⟩ : ByteArray), (⟨#[103, 108, 105, 100, 101, 114]⟩ : ByteArray), (⟨#[119, 97, 118, 101]⟩ : ByteArray), (⟨#[122, 122]⟩ : ByteArray)] = some (nm, a, t) ∧ nameOk nm ∧ 0 ≤ a ∧ a ≤ at_ + 2 := by
  unfold spec_l00Src_text.f
  obtain ⟨x, a, t, e, hx0, hx1, ha0, ha1⟩ := srcPick2 l hb hl at_ s h0 (by omega) 4 (by omega) (by omega)
  obtain ⟨X, rfl⟩ := Int.eq_ofNat_of_zero_le hx0
  have hX : X < 4 := by omega
  refine ⟨rdOf ByteArray.empty _ (X : Int), a, t, ?_, names4 ⟨X, hX⟩, ha0, ha1⟩
  show (spec_l00Src_pick.f l at_ s 4).bind _ = _
  rw [e]
  simp only [Option.bind_some]
  rw [if_pos (by omega), if_pos (by simp; omega)]
theorem drawSaved (l : List Int) (hb : Bytes l) (hl : l.length ≤ 140737488351232) : ∀ (d : Nat) (acc : List S68) (at_ s : Int), 0 ≤ at_ → at_ + 3000 * d ≤ 700000 → acc.length + d ≤ 1000 → (∀ x ∈ acc, SV x) →
    ∃ L, Ev (fun k => spec_B10Saved.l0 k acc d l at_ s) L ∧ (∀ x ∈ L, SV x) ∧ L.length = acc.length + d := by
  intro d
  induction d with
  | zero =>
    intro acc at_ s h0 h1 h2 hv
    refine ⟨acc, Ev.succ ?_, hv, rfl⟩
    simp only [spec_B10Saved.l0]
    exact Ev.neg (by simp) (Ev.now _)
  | succ d ih =>
    intro acc at_ s h0 h1 h2 hv
    obtain ⟨nm, a1, t1, e1, hn, p1, q1⟩ := drawName l hb hl at_ s h0 (by omega)
    obtain ⟨st, rc, xs, a2, t2, e2, hr, p2, q2⟩ := drawRule l hb hl a1 t1 p1 (by omega)
    obtain ⟨y, a3, t3, e3, hy0, hy1, p3, q3⟩ := srcPick2 l hb hl a2 t2 p2 (by omega) 4 (by omega) (by omega)
    obtain ⟨z, a4, t4, e4, hz0, hz1, p4, q4⟩ := srcPick2 l hb hl a3 t3 p3 (by omega) 4 (by omega) (by omega)
    obtain ⟨Y, rfl⟩ := Int.eq_ofNat_of_zero_le hy0
    obtain ⟨Z, rfl⟩ := Int.eq_ofNat_of_zero_le hz0
    obtain ⟨ys, a5, t5, e5, hf, p5, q5⟩ := drawField l hb hl (1 + Y) (1 + Z) (by omega) (by omega) a4 t4 p4 (by omega)
    have hsv : SV ⟨nm, ⟨st, rc, xs⟩, ⟨((1 + Y : Nat) : Int), ((1 + Z : Nat) : Int), ys⟩⟩ := by
      unfold SV savedOk
      show (cd (nameOk nm) && (validRule st rc xs && validField ((1 + Y : Nat) : Int) ((1 + Z : Nat) : Int) ys)) = true
      rw [cd_true hn, hr, hf]; rfl
    obtain ⟨L, h, hv', hL⟩ := ih (acc ++ [⟨nm, ⟨st, rc, xs⟩, ⟨((1 + Y : Nat) : Int), ((1 + Z : Nat) : Int), ys⟩⟩]) a5 t5 p5 (by push_cast at h1; omega) (by simp; omega) (fun x hx => by
      rcases List.mem_append.1 hx with hx | hx
      · exact hv x hx
      · rw [List.mem_singleton.1 hx]; exact hsv)
    refine ⟨L, Ev.succ ?_, hv', by rw [hL]; simp; omega⟩
    simp only [spec_B10Saved.l0]
    refine Ev.pos (by omega) (Ev.bnd e1 (Ev.bind e2 (Ev.bnd e3 (Ev.bnd e4 ?_))))
    rw [wrapTo (x := 1 + (Y : Int)) (y := ((1 + Y : Nat) : Int)) (by omega) (by omega) (by omega), wrapTo (x := 1 + (Z : Int)) (y := ((1 + Z : Nat) : Int)) (by omega) (by omega) (by omega), wrapTo (x := ((d + 1 : Nat) : Int) - 1) (y := (d : Int)) (by omega) (by omega) (by omega)]
    exact Ev.bind e5 (Ev.pos (by omega) h)
theorem B10Saved (l : List Int) (hb : Bytes l) (hl : l.length ≤ 140737488351232) : ∃ L, Ev (fun k => spec_B10Saved.f k l) L ∧ (∀ x ∈ L, SV x) ∧ L.length ≤ 4 := by
  unfold spec_B10Saved.f spec_l00From.f
  obtain ⟨x, a, t, e, hx0, hx1, p, q⟩ := srcPick2 l hb hl 0 0 (by omega) (by omega) 5 (by omega) (by omega)
  obtain ⟨X, rfl⟩ := Int.eq_ofNat_of_zero_le hx0
  obtain ⟨L, h, hv, hL⟩ := drawSaved l hb hl X [] a t p (by omega) (by simp; omega) (by simp)
  exact ⟨L, Ev.bnd rfl (Ev.bnd e h), hv, by rw [hL]; simp; omega⟩

theorem b10At (l : List Int) (hb : Bytes l) (i n : Int) (hi : 0 ≤ i) (hi2 : i ≤ 1000) (hn : 1 ≤ n) (hn2 : n ≤ 1000) : ∃ x, laws_b10At.f l i n = some x ∧ 0 ≤ x ∧ x < n := by
  unfold laws_b10At.f
  by_cases c : n ≤ 1
  · rw [if_pos c]; exact ⟨_, rfl, by omega, by omega⟩
  · rw [if_neg c]
    by_cases h : i < (l.length : Int)
    · have hx := hb _ (rd_mem l i hi h)
      rw [if_pos h, if_pos hi, if_neg (by omega), wrap_id (x := rd l i) (by omega) (by omega), Int.tmod_eq_emod_of_nonneg (by omega)]
      exact ⟨_, rfl, Int.emod_nonneg _ (by omega), Int.emod_lt_of_pos _ (by omega)⟩
    · rw [if_neg h, if_neg (by omega), wrap_id (x := i * 37) (by omega) (by omega), wrap_id (x := i * 37 + 11) (by omega) (by omega), Int.tmod_eq_emod_of_nonneg (by omega)]
      exact ⟨_, rfl, Int.emod_nonneg _ (by omega), Int.emod_lt_of_pos _ (by omega)⟩
theorem b10Long (l m : List Int) : laws_b10Long.f l m = some (decide ((1048576 : Int) < l.length) || decide ((1048576 : Int) < m.length)) := by
  unfold laws_b10Long.f
  by_cases c : (l.length : Int) > 1048576
  · rw [if_pos c, decide_eq_true (show (1048576 : Int) < l.length from c), Bool.true_or]
  · rw [if_neg c, decide_eq_false (show ¬ (1048576 : Int) < l.length from c), Bool.false_or]

theorem catN_range (L : List S68) : ∀ x ∈ catN L, 0 ≤ x ∧ x ≤ 255 := by
  induction L with
  | nil => simp [catN]
  | cons y l ih =>
    intro x hx
    simp only [catN] at hx
    rcases List.mem_append.1 hx with hx | hx
    · exact bytesOf_range _ x hx
    · exact ih x hx
theorem all_bytes (L : List S68) : bytesOf (strOfNums (catN L)) = catN L := bytesOf_str _ (catN_range L)
/-- What begins with some and goes on with nothing. -/
theorem recPrefix {s : ByteArray} (hs : s.size ≤ 1048576) (M : List S68) (R : List Int) (hv : ∀ x ∈ M, SV x) (h8 : M.length < 8) (he : bytesOf s = catN M ++ R) (ht : Ev (fun k => impl_taken.f k (s.extract (catN M).length s.size)) (⟨#[]⟩, 0, 0, [], 0, 0, [], 0)) : Ev (fun k => impl_RecoverAll.f k s) (M, ((catN M).length : Int), true) := by
  unfold impl_RecoverAll.f
  have hl := congrArg List.length he
  rw [List.length_append, bytesOf_len] at hl
  refine recRun hs M [] 0 R hv (by simp; omega) (by rw [List.drop_zero]; exact he) ?_
  rw [Nat.zero_add, List.nil_append]
  exact recStop h8 (by omega) ht
theorem recAll (L : List S68) (hv : ∀ x ∈ L, SV x) (h4 : L.length ≤ 4) : Ev (fun k => impl_RecoverAll.f k (strOfNums (catN L))) (L, ((catN L).length : Int), true) := by
  have hc := catN_len L hv
  refine recPrefix (by rw [str_size]; omega) L [] hv (by omega) (by rw [all_bytes, List.append_nil]) ?_
  refine takenNo (by rw [ByteArray.size_extract, str_size]; omega) fun A S R N C P Q E _ hok => ?_
  have := hok.h1
  rw [ByteArray.size_extract, str_size] at this
  omega
/-- Where the ones end. -/
noncomputable def endsL (L : List S68) (i : Nat) : List Int := (List.range (i + 1)).map fun j => ((catN (L.take j)).length : Int)
theorem endsL_len (L : List S68) (i : Nat) : (endsL L i).length = i + 1 := by simp [endsL]
theorem endsL_get (L : List S68) (i j : Nat) (h : j ≤ i) : rd (endsL L i) (j : Int) = ((catN (L.take j)).length : Int) := by
  rw [rd_lt _ j (by rw [endsL_len]; omega)]
  simp [endsL]
theorem endsL_succ (L : List S68) (i : Nat) : endsL L (i + 1) = endsL L i ++ [((catN (L.take (i + 1))).length : Int)] := by
  unfold endsL
  rw [List.range_succ, List.map_append]
  rfl
theorem split_at (L : List S68) (i : Nat) (h : i < L.length) : catN L = catN (L.take i) ++ (TL L[i] ++ catN (L.drop (i + 1))) := by
  conv => lhs; rw [← List.take_append_drop i L]
  rw [catN_append, List.drop_eq_getElem_cons h]
  rfl
theorem take_succ_len (L : List S68) (i : Nat) (h : i < L.length) : (catN (L.take (i + 1))).length = (catN (L.take i)).length + (TB L[i]).size := by
  rw [List.take_succ_eq_append_getElem h, catN_append, List.length_append]
  simp only [catN, List.append_nil, TL_len]
theorem partFour (l1 : List Int) (hb : Bytes l1) (L : List S68) (hv : ∀ x ∈ L, SV x) (h4 : L.length ≤ 4) (kept cut : Nat) (hk : kept < L.length) (hc0 : (catN (L.take kept)).length ≤ cut) (hc1 : cut < (catN (L.take (kept + 1))).length) :
    Ev (fun k => laws_FnSavedCells.j4 k l1 (strOfNums (catN L)) (cut : Int) (kept : Int) false) true := by
  have hcl := catN_len L hv
  have hsp := split_at L kept hk
  have hts := take_succ_len L kept hk
  have hvk : ∀ x ∈ L.take kept, SV x := fun x h => hv x (List.mem_of_mem_take h)
  have hlk : (L.take kept).length = kept := by rw [List.length_take]; omega
  have hlen := congrArg List.length hsp
  rw [List.length_append, List.length_append, TL_len] at hlen
  refine Ev.succ ?_
  simp only [laws_FnSavedCells.j4]
  refine Ev.neg (by simp) (Ev.pos (by rw [str_size]; omega) (Ev.bnd rfl ?_))
  rw [all_bytes]
  obtain ⟨t, e2, ht0, ht1⟩ := b10At l1 hb 2 255 (by omega) (by omega) (by omega) (by omega)
  refine Ev.pos (by omega) (Ev.pos (by omega) (Ev.bnd e2 (Ev.bnd rfl ?_)))
  generalize hw : ((rd (catN L) (cut : Int)) + ((wrap64 (1 + t)) % 256)) % 256 = v
  have hv0 : 0 ≤ v ∧ v ≤ 255 := by omega
  rw [Int.toNat_natCast]
  have hset : (catN L).set cut v = catN (L.take kept) ++ (TL L[kept] ++ catN (L.drop (kept + 1))).set (cut - (catN (L.take kept)).length) v := by
    conv => lhs; rw [hsp]
    exact List.set_append_right _ _ hc0
  generalize hR : (TL L[kept] ++ catN (L.drop (kept + 1))).set (cut - (catN (L.take kept)).length) v = R at hset
  have hrange : ∀ x ∈ (catN L).set cut v, 0 ≤ x ∧ x ≤ 255 := by
    intro x hx
    rcases List.mem_or_eq_of_mem_set hx with h | h
    · exact catN_range L x h
    · rw [h]; exact hv0
  have hbs : bytesOf (strOfNums ((catN L).set cut v)) = (catN L).set cut v := bytesOf_str _ hrange
  have hsz : (strOfNums ((catN L).set cut v)).size = (catN L).length := by rw [str_size, List.length_set]
  have hs : (strOfNums ((catN L).set cut v)).size ≤ 1048576 := by rw [hsz]; omega
  obtain ⟨L', o, r1, r2, r3, r4, r5, r6⟩ := recAny hs (8 - kept) (L.take kept) (catN (L.take kept)).length (by omega) (by omega)
  have hrec : Ev (fun k => impl_RecoverAll.f k (strOfNums ((catN L).set cut v))) (L.take kept ++ L', (o : Int), true) := by
    unfold impl_RecoverAll.f
    refine recRun hs (L.take kept) [] 0 R hvk (by simp; omega) (by rw [List.drop_zero, hbs, hset]) ?_
    rw [Nat.zero_add, List.nil_append]
    exact r1
  have hcat : catN (L.take kept ++ L') = ((catN L).set cut v).take o := by
    rw [catN_append, ← r5, hbs]
    conv => rhs; rw [← List.take_append_drop (catN (L.take kept)).length (((catN L).set cut v).take o)]
    rw [List.take_take, Nat.min_eq_left r2, List.drop_take]
    congr 1
    rw [hset, List.take_left]
  have hsto := storeAllImpl (L.take kept ++ L') (fun x hx => by
    rcases List.mem_append.1 hx with h | h
    · exact hvk x h
    · exact r4 x h) (by rw [List.length_append]; omega)
  refine Ev.bind hrec (Ev.bind hsto (Ev.pos rfl (Ev.pos rfl (Ev.pos ?_ (Ev.pos ?_ (Ev.pos ?_ (Ev.pos ?_ (Ev.val ?_))))))))
  · show ((L.take kept ++ L').length : Int) ≥ kept
    rw [List.length_append]; omega
  · show (o : Int) ≥ 0; omega
  · show (o : Int) ≤ ((catN L).length : Int); omega
  · show (0 : Int) ≤ (o : Int); omega
  · show some ((strOfNums (catN (L.take kept ++ L'))).toList == (strOfNums (((catN L).set cut v).take (o : Int).toNat)).toList) = some true
    rw [hcat, Int.toNat_natCast]
    simp
theorem partThree (l1 : List Int) (hb : Bytes l1) (L : List S68) (hv : ∀ x ∈ L, SV x) (h4 : L.length ≤ 4) (kept cut : Nat) (hk : kept < L.length) (hc0 : (catN (L.take kept)).length ≤ cut) (hc1 : cut < (catN (L.take (kept + 1))).length) :
    Ev (fun k => laws_FnSavedCells.j3 k l1 (endsL L L.length) (strOfNums (catN L)) (cut : Int) (kept : Int)) true := by
  have hcl := catN_len L hv
  have hsp := split_at L kept hk
  have hts := take_succ_len L kept hk
  have hvk : ∀ x ∈ L.take kept, SV x := fun x h => hv x (List.mem_of_mem_take h)
  have hlk : (L.take kept).length = kept := by rw [List.length_take]; omega
  have hlen := congrArg List.length hsp
  rw [List.length_append, List.length_append, TL_len] at hlen
  have hx := hv L[kept] (List.getElem_mem hk)
  refine Ev.succ ?_
  simp only [laws_FnSavedCells.j3]
  have hbe : bytesOf ((strOfNums (catN L)).extract 0 cut) = catN (L.take kept) ++ (TL L[kept]).take (cut - (catN (L.take kept)).length) := by
    rw [bytesOf_ext, all_bytes, List.drop_zero, Nat.sub_zero, hsp, List.take_append, List.take_of_length_le hc0, List.take_append, show cut - (catN (L.take kept)).length - (TL L[kept]).length = 0 by rw [TL_len]; omega, List.take_zero, List.append_nil]
  have hsz : ((strOfNums (catN L)).extract 0 cut).size = cut := by rw [ByteArray.size_extract, str_size]; omega
  have hrec : Ev (fun k => impl_RecoverAll.f k ((strOfNums (catN L)).extract 0 cut)) (L.take kept, ((catN (L.take kept)).length : Int), true) := by
    refine recPrefix (by omega) (L.take kept) _ hvk (by omega) hbe ?_
    refine takenCut L[kept] hx _ (by rw [ext_sz, hsz]; omega) (by rw [ext_sz, hsz]; omega) ?_
    rw [ext_bytes, hbe, List.drop_left, ext_sz, hsz]
  rw [Int.toNat_natCast]
  refine Ev.pos (by omega) (Ev.pos (by rw [str_size]; omega) (Ev.bind hrec (Ev.pos rfl (Ev.pos (by omega) (Ev.pos (by rw [endsL_len]; omega) (Ev.pos (by rw [endsL_get _ _ _ (by omega)]) ?_))))))
  have e : (((L.take kept).length : Int) != (kept : Int)) = false := by rw [hlk]; simp
  show Ev (fun k => laws_FnSavedCells.j4 k l1 (strOfNums (catN L)) (cut : Int) (kept : Int) (((L.take kept).length : Int) != (kept : Int))) true
  rw [e]
  exact partFour l1 hb L hv h4 kept cut hk hc0 hc1
theorem partOne (l1 : List Int) (hb : Bytes l1) (L : List S68) (hv : ∀ x ∈ L, SV x) (h4 : L.length ≤ 4) (cut : Nat) (hc : cut < (catN L).length) :
    Ev (fun k => laws_FnSavedCells.l1 k l1 L (endsL L L.length) (strOfNums (catN L)) (cut : Int) 0) true := by
  have main : ∀ d i : Nat, i + d = L.length → (catN (L.take i)).length ≤ cut → Ev (fun k => laws_FnSavedCells.l1 k l1 L (endsL L L.length) (strOfNums (catN L)) (cut : Int) (i : Int)) true := by
    intro d
    induction d with
    | zero =>
      intro i hi h
      rw [List.take_of_length_le (by omega)] at h
      omega
    | succ d ih =>
      intro i hi h
      refine Ev.succ ?_
      simp only [laws_FnSavedCells.l1]
      rw [wrapTo (x := (i : Int) + 1) (y := ((i + 1 : Nat) : Int)) (by omega) (by omega) (by omega), endsL_get _ _ _ (by omega)]
      refine Ev.pos (by omega) (Ev.pos (by omega) (Ev.pos (by rw [endsL_len]; omega) ?_))
      by_cases c : (catN (L.take (i + 1))).length ≤ cut
      · exact Ev.pos (by omega) (ih (i + 1) (by omega) c)
      · exact Ev.neg (by omega) (partThree l1 hb L hv h4 i cut (by omega) h (by omega))
  exact main L.length 0 (by omega) (by simp [catN])
theorem FnSavedCells : laws_FnSavedCells.Pure := by
  intro l0 l1 _ hl0 hw0 _ hl1 hw1
  have hb0 := Bytes.of hw0
  have hb1 := Bytes.of hw1
  refine Ev.rounds ?_
  unfold laws_FnSavedCells.f
  refine Ev.bnd (b10Long l0 l1) ?_
  by_cases c : (decide ((1048576 : Int) < l0.length) || decide ((1048576 : Int) < l1.length)) = true
  · exact Ev.pos c (Ev.now _)
  obtain ⟨L, hL, hv, h4⟩ := B10Saved l0 hb0 (by omega)
  have hcl := catN_len L hv
  refine Ev.neg c (Ev.bind hL ?_)
  refine Ev.congr (fun k => ?_) (Ev.upto L.length (fun _ => True) (fun i => endsL L i) true (fun k e i => laws_FnSavedCells.l0 k l1 L e L.length i) (fun i hi _ ih => ?_) (fun _ => ?_) trivial)
  · rfl
  · refine Ev.succ ?_
    simp only [laws_FnSavedCells.l0]
    have hx := hv L[i] (List.getElem_mem hi)
    have hsb := sv_bounds hx
    have hts := take_succ_len L i hi
    have htl : (catN (L.take (i + 1))).length ≤ (catN L).length := by
      conv => rhs; rw [← List.take_append_drop (i + 1) L, catN_append, List.length_append]
      omega
    have ih' := ih trivial
    rw [endsL_succ, hts] at ih'
    rw [rd68 L i hi, endsL_len, wrap_id (x := (i : Int) + 1) (by omega) (by omega), wrapTo (x := ((i + 1 : Nat) : Int) - 1) (y := (i : Int)) (by omega) (by omega) (by omega), endsL_get _ _ _ (Nat.le_refl _)]
    refine Ev.pos (by omega) (Ev.pos (by omega) (Ev.pos (by omega) (Ev.bind (storeImplX hx) (Ev.bind (loadImplX hx) (Ev.pos rfl (Ev.pos rfl (Ev.bind (a := true) ?_ (Ev.pos rfl (Ev.bind (a := true) ?_ (Ev.pos rfl (Ev.pos (by omega) (Ev.pos (by omega) (Ev.pos (by omega) ?_)))))))))))))
    · exact Ev.cast (savedImpl _ _ _ _ _ _ _ (by omega) (by omega) (by omega)) hx
    · exact sameSavedRefl [L[i]] (fun x h => by rw [List.mem_singleton.1 h]; exact hx) (by simp)
    · have e : wrap64 (((catN (L.take i)).length : Int) + ((TB L[i]).size : Int)) = (((catN (L.take i)).length + (TB L[i]).size : Nat) : Int) := wrapTo (by omega) (by omega) (by omega)
      rw [← e] at ih'
      exact ih'
  · refine Ev.succ ?_
    simp only [laws_FnSavedCells.l0]
    have hall : ((strOfNums (catN L)).size : Int) = ((catN L).length : Int) := by rw [str_size]
    refine Ev.neg (by omega) (Ev.bind (storeAllImpl L hv (by omega)) (Ev.bind (recAll L hv h4) (Ev.pos rfl (Ev.pos rfl (Ev.pos (by omega) (Ev.pos (by rw [endsL_len]; omega) (Ev.pos ?_ (Ev.pos hall.symm (Ev.bind (sameSavedRefl L hv (by omega)) (Ev.succ ?_))))))))))
    · rw [endsL_get _ _ _ (Nat.le_refl _), List.take_length]
      exact hall
    · simp only [laws_FnSavedCells.j1]
      refine Ev.neg (by simp) ?_
      by_cases c0 : ((strOfNums (catN L)).size : Int) = 0
      · exact Ev.pos c0 (Ev.now _)
      · obtain ⟨x, e0, hx0, hx1⟩ := b10At l1 hb1 0 256 (by omega) (by omega) (by omega) (by omega)
        obtain ⟨y, e1, hy0, hy1⟩ := b10At l1 hb1 1 256 (by omega) (by omega) (by omega) (by omega)
        refine Ev.neg c0 (Ev.bnd e0 (Ev.bnd e1 ?_))
        rw [wrap_id (x := 256 * x) (by omega) (by omega), wrap_id (x := 256 * x + y) (by omega) (by omega), Int.tmod_eq_emod_of_nonneg (by omega), hall]
        have m0 := Int.emod_nonneg (256 * x + y) (show ((catN L).length : Int) ≠ 0 by omega)
        have m1 := Int.emod_lt_of_pos (256 * x + y) (show (0 : Int) < ((catN L).length : Int) by omega)
        obtain ⟨cut, hcut⟩ := Int.eq_ofNat_of_zero_le m0
        rw [hcut]
        exact partOne l1 hb1 L hv h4 cut (by omega)

end Go.Proofs.Ytjhodohmifemiaa.Pure

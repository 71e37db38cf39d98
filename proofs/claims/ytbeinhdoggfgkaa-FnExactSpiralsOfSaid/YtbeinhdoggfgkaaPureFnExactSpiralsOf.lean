/- SpiralsOf of the program and of the reference answer the same for all arguments. -/
import Derived.Test.YtbeinhdoggfgkaaPFnExactSpiralsOfx0
import Derived.Test.YtbeinhdoggfgkaaPFnExactSpiralsOfx1
import Derived.Test.YtbeinhdoggfgkaaPFnExactSpiralsOfx2
import Derived.Test.YtbeinhdoggfgkaaLib
namespace Go.Proofs.Ytbeinhdoggfgkaa.Pure
open Go.RowKit Go.Proofs.Ytbeinhdoggfgkaa.PFnExactSpiralsOf Go.Proofs.YtbeinhdoggfgkaaW.PrintWords Go.Proofs.YtbeinhdoggfgkaaW.PrintLast Go.Proofs.Ytbeinhdoggfgkaa.L
set_option linter.unusedVariables false
set_option linter.unusedSimpArgs false

/-- The place on a ring, from 0 on. -/
def fm (x : Int) (n : Int) : Int := Int.tmod (wrap64 ((Int.tmod x n) + n)) n
theorem fm_ok (x n : Int) (h0 : 0 < n) (hn : n ≤ 1000000000000) : 0 ≤ fm x n ∧ fm x n < n := by
  unfold fm
  have h1 := Int.tmod_lt_of_pos x h0
  have h2 : -n < Int.tmod x n := by
    have := Int.tmod_lt_of_pos (-x) h0
    rw [Int.neg_tmod] at this
    omega
  rw [wrap_id (x := Int.tmod x n + n) (by omega) (by omega)]
  exact ⟨Int.tmod_nonneg _ (by omega), Int.tmod_lt_of_pos _ h0⟩

/-- A field, as facts: cells up to M. -/
structure FieldIn (M r c : Int) (l : List Int) : Prop where
  r0 : 1 ≤ r
  r1 : r ≤ 24
  c0 : 1 ≤ c
  c1 : c ≤ 24
  n : (l.length : Int) = r * c
  all : ∀ x ∈ l, 0 ≤ x ∧ x ≤ M
theorem FieldIn.of {r c : Int} {l : List Int} (h : validField r c l = true) : FieldIn 9 r c l := by
  unfold validField at h
  simp only [Bool.and_eq_true, decide_eq_true_eq] at h
  exact ⟨h.1.1.1.1, h.1.1.1.2, h.1.1.2.1, h.1.1.2.2, h.1.2, allIn_iff.1 h.2⟩
/-- The cell of a row and a column. -/
def cell (c : Int) (l : List Int) (i k : Int) : Int := rd l (i * c + k)
theorem cell_in {M r c : Int} {l : List Int} (h : FieldIn M r c l) {i k : Int} (hi : 0 ≤ i ∧ i < r) (hk : 0 ≤ k ∧ k < c) : 0 ≤ i * c ∧ i * c ≤ 576 ∧ 0 ≤ i * c + k ∧ i * c + k < l.length := by
  have h0 := h.c0
  have h1 : 0 ≤ i * c := Int.mul_nonneg hi.1 (by omega)
  have h2 : i * c ≤ (r - 1) * c := Int.mul_le_mul_of_nonneg_right (by omega) (by omega)
  have h3 : i * c ≤ 24 * c := Int.mul_le_mul_of_nonneg_right (by have := h.r1; omega) (by omega)
  have := h.c1
  rw [Int.sub_mul, Int.one_mul, ← h.n] at h2
  omega
theorem cell_ok {M r c : Int} {l : List Int} (h : FieldIn M r c l) {i k : Int} (hi : 0 ≤ i ∧ i < r) (hk : 0 ≤ k ∧ k < c) : 0 ≤ cell c l i k ∧ cell c l i k ≤ M :=
  h.all _ (rd_mem l _ (cell_in h hi hk).2.2.1 (cell_in h hi hk).2.2.2)
/-- A cell, round and round, or 0 beyond the border. -/
def look (r c : Int) (l : List Int) (b : Bool) (i k : Int) : Int :=
  if b = true then cell c l (fm i r) (fm k c) else if (0 ≤ i ∧ i ≤ r - 1) ∧ 0 ≤ k ∧ k ≤ c - 1 then cell c l i k else 0
theorem look_ok {M r c : Int} {l : List Int} (h : FieldIn M r c l) (hM : 0 ≤ M) (b : Bool) (i k : Int) : 0 ≤ look r c l b i k ∧ look r c l b i k ≤ M := by
  have h1 := fm_ok i r (by have := h.r0; omega) (by have := h.r1; omega)
  have h2 := fm_ok k c (by have := h.c0; omega) (by have := h.c1; omega)
  unfold look
  split
  · exact cell_ok h h1 h2
  · split
    · rename_i g
      exact cell_ok h ⟨g.1.1, by omega⟩ ⟨g.2.1, by omega⟩
    · omega
theorem fm_self {x n : Int} (h0 : 0 ≤ x) (h1 : x < n) (hn : n ≤ 1000000000000) : fm x n = x := by
  unfold fm
  rw [Int.tmod_eq_of_lt h0 h1, wrap_id (x := x + n) (by omega) (by omega), Int.tmod_eq_emod_of_nonneg (by omega), Int.add_emod_right, Int.emod_eq_of_lt h0 h1]
theorem look_here {M r c : Int} {l : List Int} (h : FieldIn M r c l) (b : Bool) {i k : Int} (hi : 0 ≤ i ∧ i < r) (hk : 0 ≤ k ∧ k < c) : look r c l b i k = cell c l i k := by
  unfold look
  rw [fm_self hi.1 hi.2 (by have := h.r1; omega), fm_self hk.1 hk.2 (by have := h.c1; omega), if_pos (show (0 ≤ i ∧ i ≤ r - 1) ∧ 0 ≤ k ∧ k ≤ c - 1 by omega)]
  split <;> rfl
/-- The sum of the eight cells around one. -/
def aroundOf (r c : Int) (l : List Int) (b : Bool) (i k : Int) : Int := sum3 (fun a => sum3 (fun d => look r c l b a d) k 3) i 3 - cell c l i k
/-- The same, without the cell itself. -/
def ringOf (r c : Int) (l : List Int) (b : Bool) (i k a d : Int) : Int := if a = i ∧ d = k then 0 else look r c l b a d
theorem around_eq {M r c : Int} {l : List Int} (h : FieldIn M r c l) (b : Bool) {i k : Int} (hi : 0 ≤ i ∧ i < r) (hk : 0 ≤ k ∧ k < c) :
    sum3 (fun a => sum3 (fun d => ringOf r c l b i k a d) k 3) i 3 = aroundOf r c l b i k := by
  have e := look_here h b hi hk
  unfold aroundOf
  rw [← e]
  simp only [sum3, ringOf]
  have ei : i - 1 + ((1 : Nat) : Int) = i := by omega
  have ek : k - 1 + ((1 : Nat) : Int) = k := by omega
  have e0 : ((0 : Nat) : Int) = 0 := rfl
  have e2 : ((2 : Nat) : Int) = 2 := rfl
  rw [ei, ek, e0, e2, if_neg (show ¬ (i - 1 + 0 = i ∧ k - 1 + 0 = k) by omega), if_neg (show ¬ (i - 1 + 0 = i ∧ k = k) by omega), if_neg (show ¬ (i - 1 + 0 = i ∧ k - 1 + 2 = k) by omega), if_neg (show ¬ (i = i ∧ k - 1 + 0 = k) by omega), if_pos (show i = i ∧ k = k from ⟨rfl, rfl⟩), if_neg (show ¬ (i = i ∧ k - 1 + 2 = k) by omega), if_neg (show ¬ (i - 1 + 2 = i ∧ k - 1 + 0 = k) by omega), if_neg (show ¬ (i - 1 + 2 = i ∧ k = k) by omega), if_neg (show ¬ (i - 1 + 2 = i ∧ k - 1 + 2 = k) by omega)]
  omega

theorem within (a b c : Int) : impl_within.f a b c = some (decide (b ≤ a ∧ a ≤ c)) := by
  unfold impl_within.f
  by_cases h : a ≥ b
  · rw [if_pos h]; simp; omega
  · rw [if_neg h]; simp; omega

theorem bit (b : Bool) : impl_bit.f b = some (if b = true then 1 else 0) := by
  unfold impl_bit.f
  split <;> rfl

theorem l00In (a b c : Int) : spec_l00In.f a b c = some (decide (b ≤ a ∧ a ≤ c)) := by
  unfold spec_l00In.f
  by_cases h : a ≥ b
  · rw [if_pos h]; simp; omega
  · rw [if_neg h]; simp; omega

theorem areWithin (l : List Int) (a b : Int) (hl : l.length ≤ 35184372088832) : Ev (fun k => impl_areWithin.f k l a b) (allIn l a b) := by
  unfold impl_areWithin.f
  refine Ev.upto l.length (fun i => ∀ j, (hj : j < l.length) → j < i → a ≤ l[j] ∧ l[j] ≤ b) (fun _ => ()) _ (fun k _ i => impl_areWithin.l0 k a b l l.length i) (fun i hi hp ih => ?_) (fun hp => ?_) (fun j hj h => by omega)
  · refine Ev.succ ?_
    simp only [impl_areWithin.l0]
    refine Ev.pos (by omega) (Ev.pos (by omega) (Ev.pos (by omega) ?_))
    rw [rd_lt l i (by omega), wrap_id (by omega) (by omega), within]
    by_cases c : a ≤ l[i] ∧ l[i] ≤ b
    · exact Ev.bnd rfl (Ev.pos (by simpa using c) (ih (upTo_succ (p := fun x => a ≤ x ∧ x ≤ b) hi hp c)))
    · exact Ev.bnd rfl (Ev.neg (by simpa using c) (Ev.val (by rw [allIn_false i (by omega) c])))
  · refine Ev.succ ?_
    simp only [impl_areWithin.l0]
    exact Ev.neg (by omega) (Ev.val (by rw [allIn_true (fun j hj' => hp j hj' (by omega))]))

theorem areMany (l : List Int) (a b c d : Int) (hl : l.length ≤ 35184372088832) : Ev (fun k => impl_areMany.f k l a b c d) (decide (a ≤ l.length ∧ l.length ≤ b) && allIn l c d) := by
  unfold impl_areMany.f
  refine Ev.bnd (within _ _ _) ?_
  by_cases h : a ≤ l.length ∧ l.length ≤ b
  · refine Ev.pos (by simpa using h) (Ev.cast (Ev.bind (areWithin l c d hl) (Ev.now _)) (by simp [h]))
  · exact Ev.neg (by simpa using h) (Ev.val (by simp [h]))

theorem isSide (r : Int) : impl_isSide.f r = some (decide (1 ≤ r ∧ r ≤ 24)) := by
  unfold impl_isSide.f
  rw [within]; rfl
theorem ValidField (r c : Int) (l : List Int) (hl : l.length ≤ 35184372088832) : Ev (fun k => impl_ValidField.f k r c l) (validField r c l) := by
  unfold impl_ValidField.f validField
  refine Ev.cast (Ev.andB (isSide r) (fun hr => Ev.andB (isSide c) (fun hc => ?_))) (by rw [← Bool.and_assoc, ← Bool.and_assoc])
  rw [decide_eq_true_eq] at hr hc
  have hm1 : 0 ≤ r * c := Int.mul_nonneg (by omega) (by omega)
  have hm2 : r * c ≤ 24 * c := Int.mul_le_mul_of_nonneg_right hr.2 (by omega)
  rw [wrap_id (x := r * c) (by omega) (by omega)]
  refine Ev.cast (Ev.ret (areMany l _ _ 0 9 hl)) ?_
  congr 1
  exact decide_eq_decide.mpr (by omega)

theorem l04Is (r c : Int) (l : List Int) (hl : l.length ≤ 35184372088832) : Ev (fun k => spec_l04Is.f k r c l) (validField r c l) := by
  unfold spec_l04Is.f validField
  refine Ev.bnd (l00In r 1 24) ?_
  by_cases hr : 1 ≤ r ∧ r ≤ 24
  · refine Ev.pos (by simpa using hr) (Ev.bnd (l00In c 1 24) ?_)
    by_cases hc : 1 ≤ c ∧ c ≤ 24
    · have hm1 : 0 ≤ r * c := Int.mul_nonneg (by omega) (by omega)
      have hm2 : r * c ≤ 24 * c := Int.mul_le_mul_of_nonneg_right hr.2 (by omega)
      rw [wrap_id (x := r * c) (by omega) (by omega)]
      refine Ev.pos (by simpa using hc) (Ev.succ ?_)
      simp only [spec_l04Is.j0]
      by_cases hn : (l.length : Int) = r * c
      · refine Ev.neg (by simp [hn]) ?_
        rw [decide_eq_true hr, decide_eq_true hc, decide_eq_true hn, Bool.true_and, Bool.true_and, Bool.true_and]
        refine Ev.upto l.length (fun i => ∀ j, (hj : j < l.length) → j < i → 0 ≤ l[j] ∧ l[j] ≤ 9) (fun _ => ()) _ (fun k _ i => spec_l04Is.l0 k i r c l) (fun i hi hp ih => ?_) (fun hp => ?_) (fun j hj h => by omega)
        · refine Ev.succ ?_
          simp only [spec_l04Is.l0]
          refine Ev.pos (by omega) (Ev.pos (by omega) ?_)
          rw [rd_lt l i (by omega), wrap_id (x := (i : Int) + 1) (by omega) (by omega)]
          refine Ev.bnd (l00In _ _ _) ?_
          by_cases c : 0 ≤ l[i] ∧ l[i] ≤ 9
          · exact Ev.pos (by simpa using c) (ih (upTo_succ (p := fun x => 0 ≤ x ∧ x ≤ 9) hi hp c))
          · exact Ev.neg (by simpa using c) (Ev.val (by rw [allIn_false i (by omega) c]))
        · refine Ev.succ ?_
          simp only [spec_l04Is.l0]
          exact Ev.neg (by omega) (Ev.val (by rw [allIn_true (fun j hj' => hp j hj' (by omega))]))
      · exact Ev.pos (by simp [hn]) (Ev.val (by simp [hn]))
    · refine Ev.neg (by simpa using hc) (Ev.succ ?_)
      simp only [spec_l04Is.j0]
      exact Ev.pos (by trivial) (Ev.val (by simp [hc]))
  · refine Ev.neg (by simpa using hr) (Ev.succ ?_)
    simp only [spec_l04Is.j0]
    exact Ev.pos (by trivial) (Ev.val (by simp [hr]))

theorem fm_emod (x n : Int) (h0 : 0 < n) (hn : n ≤ 1000000000000) : fm x n = x % n := by
  unfold fm
  have h1 := Int.tmod_lt_of_pos x h0
  have h2 : -n < Int.tmod x n := by
    have := Int.tmod_lt_of_pos (-x) h0
    rw [Int.neg_tmod] at this
    omega
  rw [wrap_id (x := Int.tmod x n + n) (by omega) (by omega), Int.tmod_eq_emod_of_nonneg (by omega), Int.add_emod_right, Int.tmod_def]
  exact Int.sub_mul_emod_self_left x n _
/-- 1 for a cell that is 1. -/
def one1 (x : Int) : Int := if x = 1 then 1 else 0
theorem one1_ok (x : Int) : 0 ≤ one1 x ∧ one1 x ≤ 1 := by unfold one1; split <;> omega
/-- How many of the four neighbours are 1. -/
def hotOf (r c : Int) (l : List Int) (b : Bool) (i k : Int) : Int := one1 (look r c l b (i - 1) k) + one1 (look r c l b (i + 1) k) + one1 (look r c l b i (k - 1)) + one1 (look r c l b i (k + 1))
/-- The next state of a cell. -/
def exciteAt (r c : Int) (l : List Int) (st bar : Int) (b : Bool) (i k : Int) : Int := if cell c l i k > 0 then Int.tmod (cell c l i k + 1) st else (if hotOf r c l b i k ≥ bar then 1 else 0)
def exciteOf (r c : Int) (l : List Int) (st bar : Int) (b : Bool) : List Int := grid r.toNat c.toNat fun i k => exciteAt r c l st bar b (i : Int) (k : Int)
theorem exciteAt_ok {r c st : Int} {l : List Int} (h : FieldIn (st - 1) r c l) (hs : 3 ≤ st) (bar : Int) (b : Bool) {i k : Int} (hi : 0 ≤ i ∧ i < r) (hk : 0 ≤ k ∧ k < c) : 0 ≤ exciteAt r c l st bar b i k ∧ exciteAt r c l st bar b i k ≤ st - 1 := by
  have hc := cell_ok h hi hk
  unfold exciteAt
  split
  · have h1 := Int.tmod_lt_of_pos (cell c l i k + 1) (show 0 < st by omega)
    have h2 := Int.tmod_nonneg st (show 0 ≤ cell c l i k + 1 by omega)
    omega
  · split <;> omega
theorem exciteOf_in {r c st : Int} {l : List Int} (h : FieldIn (st - 1) r c l) (hs : 3 ≤ st) (bar : Int) (b : Bool) : FieldIn (st - 1) r c (exciteOf r c l st bar b) := by
  have := h.r0; have := h.c0
  refine ⟨h.r0, h.r1, h.c0, h.c1, ?_, grid_mem (p := fun x => 0 ≤ x ∧ x ≤ st - 1) (fun i j hi hj => exciteAt_ok h hs bar b ⟨by omega, by omega⟩ ⟨by omega, by omega⟩)⟩
  rw [exciteOf, grid_length]; push_cast
  rw [Int.toNat_of_nonneg (by omega), Int.toNat_of_nonneg (by omega)]
/-- A field of waves. -/
def waveField (r c : Int) (l : List Int) (st : Int) : Bool := decide (3 ≤ st ∧ st ≤ 9) && (validField r c l && allIn l 0 (st - 1))
theorem FieldIn.wave {r c st : Int} {l : List Int} (h : waveField r c l st = true) : FieldIn (st - 1) r c l ∧ 3 ≤ st ∧ st ≤ 9 := by
  unfold waveField at h
  simp only [Bool.and_eq_true, decide_eq_true_eq] at h
  have h1 := FieldIn.of h.2.1
  exact ⟨⟨h1.r0, h1.r1, h1.c0, h1.c1, h1.n, allIn_iff.1 h.2.2⟩, h.1⟩
theorem waveImpl (r c : Int) (l : List Int) (st : Int) (hl : l.length ≤ 35184372088832) : Ev (fun k => impl_isWave.f k r c l st) (waveField r c l st) := by
  unfold impl_isWave.f impl_areWaveStates.f waveField
  rw [within]
  simp only [Option.bind_some]
  refine Ev.andB rfl (fun hs => ?_)
  rw [decide_eq_true_eq] at hs
  rw [wrap_id (x := st - 1) (by omega) (by omega)]
  exact Ev.and (ValidField r c l hl) (fun _ => Ev.ret (areWithin l 0 (st - 1) hl))
theorem waveSpec (r c : Int) (l : List Int) (st : Int) (hl : l.length ≤ 35184372088832) : Ev (fun k => spec_l07Waves.f k r c l st) (waveField r c l st) := by
  unfold spec_l07Waves.f spec_l07States.f waveField
  rw [l00In]
  simp only [Option.bind_some]
  by_cases hs : 3 ≤ st ∧ st ≤ 9
  · rw [decide_eq_true hs, Bool.true_and]
    refine Ev.pos (by trivial) (Ev.bind (l04Is r c l hl) (Ev.succ ?_))
    simp only [spec_l07Waves.j0]
    by_cases hv : validField r c l = true
    · rw [hv, Bool.true_and]
      have hf := FieldIn.of hv
      refine Ev.neg (by simp) (Ev.upto l.length (fun i => ∀ j, (hj : j < l.length) → j < i → 0 ≤ l[j] ∧ l[j] ≤ st - 1) (fun _ => ()) _ (fun k _ i => spec_l07Waves.l0 k st l.length i r c l) (fun i hi hp ih => ?_) (fun hp => ?_) (fun j hj h => by omega))
      · refine Ev.succ ?_
        simp only [spec_l07Waves.l0]
        refine Ev.pos (by omega) (Ev.pos (by omega) (Ev.pos (by omega) ?_))
        have hx := hf.all l[i] (List.getElem_mem hi)
        rw [rd_lt l i hi, wrap_id (x := (i : Int) + 1) (by omega) (by omega)]
        by_cases g : l[i] ≥ st
        · exact Ev.pos g (Ev.val (by rw [allIn_false i hi (by omega)]))
        · exact Ev.neg g (ih (upTo_succ (p := fun x => 0 ≤ x ∧ x ≤ st - 1) hi hp (by omega)))
      · refine Ev.succ ?_
        simp only [spec_l07Waves.l0]
        exact Ev.neg (by omega) (Ev.val (by rw [allIn_true (fun j hj' => hp j hj' (by omega))]))
    · rw [Bool.eq_false_iff.mpr hv, Bool.false_and]
      exact Ev.pos (by simp) (Ev.now _)
  · rw [decide_eq_false hs, Bool.false_and]
    refine Ev.neg (by simp) (Ev.succ ?_)
    simp only [spec_l07Waves.j0]
    exact Ev.pos (by trivial) (Ev.now _)

/-- The cells around a block, the first one last, too. -/
def ixs (c p : Int) : List Int := [p, p + 1, p + c + 1, p + c, p]
theorem ixs_ok {c p : Int} {l : List Int} (hp : 0 ≤ p) (hc : 0 ≤ c) (hl : p + c + 1 < l.length) (n : Nat) (hn : n ≤ 4) : 0 ≤ rd (ixs c p) (n : Int) ∧ rd (ixs c p) (n : Int) < l.length := by
  rw [rd_lt (ixs c p) n (by simp [ixs]; omega)]
  have : n = 0 ∨ n = 1 ∨ n = 2 ∨ n = 3 ∨ n = 4 := by omega
  rcases this with rfl | rfl | rfl | rfl | rfl <;> simp [ixs] <;> omega
/-- The way from a state to another one. -/
def wayOf (a b st : Int) : Int := if 2 * (b - a) < -st then b - a + st else if 2 * (b - a) > st then b - a - st else b - a
theorem wayOf_ok {a b st : Int} (hs : 3 ≤ st) (hs9 : st ≤ 9) (ha : 0 ≤ a ∧ a ≤ st - 1) (hb : 0 ≤ b ∧ b ≤ st - 1) : -20 ≤ wayOf a b st ∧ wayOf a b st ≤ 20 := by
  unfold wayOf; split
  · omega
  · split <;> omega
theorem wayImpl {a b st : Int} (hs : 3 ≤ st) (hs9 : st ≤ 9) (ha : 0 ≤ a ∧ a ≤ st - 1) (hb : 0 ≤ b ∧ b ≤ st - 1) : impl_wayBetween.f a b st = some (wayOf a b st) := by
  unfold impl_wayBetween.f wayOf
  rw [wrap_id (x := b - a) (by omega) (by omega), wrap_id (x := 2 * (b - a)) (by omega) (by omega), wrap_id (x := -st) (by omega) (by omega), wrap_id (x := b - a + st) (by omega) (by omega), wrap_id (x := b - a - st) (by omega) (by omega)]
  split
  · rfl
  · split <;> rfl
theorem waySpec {a b st : Int} (hs : 3 ≤ st) (hs9 : st ≤ 9) (ha : 0 ≤ a ∧ a ≤ st - 1) (hb : 0 ≤ b ∧ b ≤ st - 1) : spec_l07Way.f a b st = some (wayOf a b st) := by
  unfold spec_l07Way.f wayOf
  rw [wrap_id (x := b - a) (by omega) (by omega), wrap_id (x := 2 * (b - a)) (by omega) (by omega), wrap_id (x := -st) (by omega) (by omega), wrap_id (x := b - a + st) (by omega) (by omega), wrap_id (x := b - a - st) (by omega) (by omega), wrap_id (x := 2 * (b - a - st)) (by omega) (by omega), wrap_id (x := b - a - st + st) (by omega) (by omega)]
  by_cases c1 : 2 * (b - a) > st
  · rw [if_pos c1, if_neg (by omega), if_neg (by omega), if_pos c1]
  · rw [if_neg c1]
    by_cases c2 : 2 * (b - a) < -st
    · rw [if_pos c2, if_pos c2]
    · rw [if_neg c2, if_neg c2, if_neg c1]
def windSum (c : Int) (l : List Int) (st p : Int) : Nat → Int
  | 0 => 0
  | n + 1 => windSum c l st p n + wayOf (rd l (rd (ixs c p) (n : Int))) (rd l (rd (ixs c p) ((n : Int) + 1))) st
def windAt (c : Int) (l : List Int) (st p : Int) : Int := wrap64 (Int.tdiv (windSum c l st p 4) st)
theorem wind_cell {r c st p : Int} {l : List Int} (h : FieldIn (st - 1) r c l) (hp : 0 ≤ p) (hl : p + c + 1 < l.length) (n : Nat) (hn : n ≤ 4) : 0 ≤ rd l (rd (ixs c p) (n : Int)) ∧ rd l (rd (ixs c p) (n : Int)) ≤ st - 1 := by
  have := ixs_ok (l := l) hp (by have := h.c0; omega) hl n hn
  exact h.all _ (rd_mem l _ this.1 this.2)
theorem windSum_ok {r c st p : Int} {l : List Int} (h : FieldIn (st - 1) r c l) (hs : 3 ≤ st) (hs9 : st ≤ 9) (hp : 0 ≤ p) (hl : p + c + 1 < l.length) (n : Nat) (hn : n ≤ 4) : -20 * (n : Int) ≤ windSum c l st p n ∧ windSum c l st p n ≤ 20 * (n : Int) := by
  induction n with
  | zero => simp [windSum]
  | succ n ih =>
    have i1 := ih (by omega)
    have h1 := wind_cell h hp hl n (by omega)
    have h2 := wind_cell h hp hl (n + 1) hn
    rw [show ((n + 1 : Nat) : Int) = (n : Int) + 1 by omega] at h2
    have := wayOf_ok hs hs9 h1 h2
    simp only [windSum]
    push_cast
    omega
theorem windLit {r c st p : Int} {l : List Int} (h : FieldIn (st - 1) r c l) (hs : 3 ≤ st) (hs9 : st ≤ 9) (hp : 0 ≤ p) (hl : p + c + 1 < l.length) : Ev (fun k => impl_WindingOf_1.f k p (p + 1) (p + c + 1) (p + c) p r c l st) (windAt c l st p) := by
  unfold impl_WindingOf_1.f
  have hc0 := h.c0
  refine Ev.upto 4 (fun _ => True) (fun n => windSum c l st p n) _ (fun k x n => impl_WindingOf_1.l0 k x n r c l st p (p + 1) (p + c + 1) (p + c) p) (fun n hn _ ih => ?_) (fun _ => ?_) trivial
  · refine Ev.succ ?_
    simp only [impl_WindingOf_1.l0]
    have e1 := ixs_ok (l := l) hp (by omega) hl n (by omega)
    have e2 := ixs_ok (l := l) hp (by omega) hl (n + 1) (by omega)
    have h1 := wind_cell h hp hl n (by omega)
    have h2 := wind_cell h hp hl (n + 1) (by omega)
    have b1 := windSum_ok h hs hs9 hp hl n (by omega)
    rw [show ((n + 1 : Nat) : Int) = (n : Int) + 1 by omega] at e2 h2
    have hw := wayOf_ok hs hs9 h1 h2
    have ih' := ih trivial
    simp only [windSum] at ih'
    rw [wrap_id (x := (n : Int) + 1) (by omega) (by omega)]
    rw [show [p, p + 1, p + c + 1, p + c, p] = ixs c p from rfl]
    refine Ev.pos (by omega) (Ev.pos (by omega) (Ev.pos (by omega) (Ev.pos e1.1 (Ev.pos e1.2 (Ev.pos (by omega) (Ev.pos (by omega) (Ev.pos e2.1 (Ev.pos e2.2 (Ev.bnd (wayImpl hs hs9 h1 h2) ?_)))))))))
    rw [wrap_id (x := windSum c l st p n + wayOf (rd l (rd (ixs c p) (n : Int))) (rd l (rd (ixs c p) ((n : Int) + 1))) st) (by omega) (by omega)]
    exact ih'
  · refine Ev.succ ?_
    simp only [impl_WindingOf_1.l0]
    exact Ev.neg (by omega) (Ev.neg (by omega) (Ev.now _))
/-- The windings of all blocks. -/
def winds (c : Int) (l : List Int) (st : Int) (R C : Nat) : List Int := grid R C fun i j => windAt c l st ((i : Int) * c + (j : Int))
def windRes (r c : Int) (l : List Int) (st : Int) : List Int × Bool := if (waveField r c l st && decide (2 ≤ r ∧ 2 ≤ c)) = true then (winds c l st (r - 1).toNat (c - 1).toNat, true) else ([], false)
theorem wind_in {M r c : Int} {l : List Int} (h : FieldIn M r c l) (i j : Nat) (hi : (i : Int) + 1 < r) (hj : (j : Int) + 1 < c) : 0 ≤ (i : Int) * c ∧ (i : Int) * c ≤ 576 ∧ 0 ≤ (i : Int) * c + (j : Int) ∧ (i : Int) * c + (j : Int) + c + 1 < l.length := by
  have h1 := cell_in h (i := (i : Int)) (k := (j : Int)) ⟨by omega, by omega⟩ ⟨by omega, by omega⟩
  have h2 := cell_in h (i := (i : Int) + 1) (k := (j : Int) + 1) ⟨by omega, by omega⟩ ⟨by omega, by omega⟩
  have e : ((i : Int) + 1) * c = (i : Int) * c + c := by rw [Int.add_mul, Int.one_mul]
  omega
theorem blocksImpl {r c st : Int} {l : List Int} (h : FieldIn (st - 1) r c l) (hs : 3 ≤ st) (hs9 : st ≤ 9) (hr2 : 2 ≤ r) (hc2 : 2 ≤ c) : Ev (fun k => impl_blocks_impl_WindingOf_1.f k r c r c l st []) (winds c l st (r - 1).toNat (c - 1).toNat) := by
  obtain ⟨R, hR⟩ := Int.eq_ofNat_of_zero_le (show 0 ≤ r - 1 by omega)
  obtain ⟨C, hC⟩ := Int.eq_ofNat_of_zero_le (show 0 ≤ c - 1 by omega)
  have hr24 := h.r1; have hc24 := h.c1
  unfold impl_blocks_impl_WindingOf_1.f
  rw [hR, hC, Int.toNat_natCast, Int.toNat_natCast, wrap_id (x := (R : Int)) (by omega) (by omega)]
  have hRC : R * C ≤ 23 * 23 := Nat.mul_le_mul (by omega) (by omega)
  have key := Ev.grid R C (fun n => (winds c l st R C).take n) (winds c l st R C) (fun k s x => impl_blocks_impl_WindingOf_1.l0 k c (R : Int) x r c l st s) (fun k s x y => impl_blocks_impl_WindingOf_1.l1 k c x (R : Int) x (C : Int) y r c l st s)
    (fun i hi hrec => ?_) (fun i j hi hj hrec => ?_) (fun i hi hrec => ?_) ?_
  · rw [List.take_zero] at key; exact key
  · refine Ev.succ ?_
    simp only [impl_blocks_impl_WindingOf_1.l0]
    rw [show wrap64 (c - 1) = (C : Int) by rw [hC]; exact wrap_id (by omega) (by omega)]
    exact Ev.pos (by omega) hrec
  · refine Ev.succ ?_
    simp only [impl_blocks_impl_WindingOf_1.l1]
    have hw := wind_in h i j (by omega) (by omega)
    rw [wrap_id (x := (j : Int) + 1) (by omega) (by omega), wrap_id (x := (i : Int) * c) (by omega) (by omega), wrap_id (x := (i : Int) * c + (j : Int)) (by omega) (by omega), wrap_id (x := (i : Int) * c + (j : Int) + 1) (by omega) (by omega), wrap_id (x := (i : Int) * c + (j : Int) + c) (by omega) (by omega), wrap_id (x := (i : Int) * c + (j : Int) + c + 1) (by omega) (by omega)]
    have hg := grid_take R C (fun i j => windAt c l st ((i : Int) * c + (j : Int))) i j hi hj
    have hrec' := hrec
    simp only [winds] at hrec' ⊢
    rw [hg] at hrec'
    exact Ev.pos (by omega) (Ev.pos (by rw [List.length_take, grid_length]; omega) (Ev.bind (windLit h hs hs9 hw.2.2.1 hw.2.2.2) hrec'))
  · refine Ev.succ ?_
    simp only [impl_blocks_impl_WindingOf_1.l1]
    rw [wrap_id (x := (i : Int) + 1) (by omega) (by omega)]
    exact Ev.neg (by omega) hrec
  · refine Ev.succ ?_
    simp only [impl_blocks_impl_WindingOf_1.l0]
    refine Ev.neg (by omega) (Ev.val ?_)
    rw [List.take_of_length_le (by simp [winds, grid_length])]
theorem windImpl (r c : Int) (l : List Int) (st : Int) (hl : l.length ≤ 35184372088832) : Ev (fun k => impl_WindingOf.f k r c l st) (windRes r c l st) := by
  unfold impl_WindingOf.f windRes
  refine Ev.bind (waveImpl r c l st hl) ?_
  by_cases g : waveField r c l st = true
  · obtain ⟨h, hs, hs9⟩ := FieldIn.wave g
    rw [g, Bool.true_and]
    refine Ev.pos rfl ?_
    by_cases c1 : r < 2
    · exact Ev.pos c1 (Ev.val (by rw [if_neg (by simp; omega)]))
    · refine Ev.neg c1 ?_
      by_cases c2 : c < 2
      · exact Ev.pos c2 (Ev.val (by rw [if_neg (by simp; omega)]))
      · rw [if_pos (by simp; omega)]
        exact Ev.neg c2 (Ev.bnd rfl (Ev.bind (blocksImpl h hs hs9 (by omega) (by omega)) (Ev.now _)))
  · rw [Bool.eq_false_iff.mpr g, Bool.false_and]
    exact Ev.neg (by simp) (Ev.val (by simp))
theorem windSpec (r c : Int) (l : List Int) (st : Int) (hl : l.length ≤ 35184372088832) : Ev (fun k => spec_WindingOf.f k r c l st) (windRes r c l st) := by
  unfold spec_WindingOf.f windRes
  refine Ev.bind (waveSpec r c l st hl) ?_
  have no : ∀ b : Bool, b = true → ¬ (waveField r c l st && decide (2 ≤ r ∧ 2 ≤ c)) = true → Ev (fun k => spec_WindingOf.j0 k st b r c l) (if (waveField r c l st && decide (2 ≤ r ∧ 2 ≤ c)) = true then (winds c l st (r - 1).toNat (c - 1).toNat, true) else ([], false)) := fun b hb hn => by
    rw [if_neg hn]
    refine Ev.succ ?_
    simp only [spec_WindingOf.j0]
    exact Ev.pos hb (Ev.now _)
  by_cases g : waveField r c l st = true
  · obtain ⟨h, hs, hs9⟩ := FieldIn.wave g
    refine Ev.pos g ?_
    by_cases c1 : r < 2
    · exact Ev.pos c1 (no true rfl (by simp; omega))
    · refine Ev.neg c1 ?_
      by_cases c2 : c < 2
      · exact no _ (by simpa using c2) (by simp; omega)
      · rw [g, Bool.true_and, if_pos (by simp; omega)]
        refine Ev.succ ?_
        simp only [spec_WindingOf.j0]
        refine Ev.neg (by simpa using c2) ?_
        obtain ⟨R, hR⟩ := Int.eq_ofNat_of_zero_le (show 0 ≤ r - 1 by omega)
        obtain ⟨C, hC⟩ := Int.eq_ofNat_of_zero_le (show 0 ≤ c - 1 by omega)
        have hr24 := h.r1; have hc24 := h.c1
        rw [hR, hC, Int.toNat_natCast, Int.toNat_natCast]
        have hRC : R * C ≤ 23 * 23 := Nat.mul_le_mul (by omega) (by omega)
        have key := Ev.grid R C (fun n => (winds c l st R C).take n) ((winds c l st R C, true) : List Int × Bool) (fun k s x => spec_WindingOf.l0 k st s x r c l) (fun k s x y => spec_WindingOf.l1 k st s x y r c l)
          (fun i hi hrec => ?_) (fun i j hi hj hrec => ?_) (fun i hi hrec => ?_) ?_
        · rw [List.take_zero] at key; exact key
        · refine Ev.succ ?_
          simp only [spec_WindingOf.l0]
          rw [wrap_id (x := (i : Int) + 1) (by omega) (by omega)]
          exact Ev.pos (by omega) hrec
        · refine Ev.succ ?_
          simp only [spec_WindingOf.l1]
          have hw := wind_in h i j (by omega) (by omega)
          have hg := grid_take R C (fun i j => windAt c l st ((i : Int) * c + (j : Int))) i j hi hj
          simp only [winds] at hrec ⊢
          rw [hg] at hrec
          rw [wrap_id (x := (j : Int) + 1) (by omega) (by omega)]
          refine Ev.pos (by omega) (Ev.bnd (a := ixs c ((i : Int) * c + (j : Int))) ?_ ?_)
          · unfold spec_l07Around.f
            rw [wrap_id (x := (i : Int) * c) (by omega) (by omega), wrap_id (x := (i : Int) * c + (j : Int)) (by omega) (by omega), wrap_id (x := (i : Int) * c + (j : Int) + 1) (by omega) (by omega), wrap_id (x := (i : Int) * c + (j : Int) + c) (by omega) (by omega), wrap_id (x := (i : Int) * c + (j : Int) + c + 1) (by omega) (by omega)]
            rfl
          · generalize (i : Int) * c + (j : Int) = p at hw hrec ⊢
            generalize hT : (grid R C fun i j => windAt c l st ((i : Int) * c + (j : Int))).take (i * C + j) = T at hrec ⊢
            have hTl : T.length ≤ 529 := by rw [← hT, List.length_take, grid_length]; omega
            refine Ev.upto 4 (fun _ => True) (fun n => windSum c l st p n) _ (fun k x n => spec_WindingOf.l2 k st T (i : Int) (j : Int) (ixs c p) x n r c l) (fun n hn _ ih => ?_) (fun _ => ?_) trivial
            · refine Ev.succ ?_
              simp only [spec_WindingOf.l2]
              have hc0 := h.c0
              have e1 := ixs_ok (l := l) hw.2.2.1 (by omega) hw.2.2.2 n (by omega)
              have e2 := ixs_ok (l := l) hw.2.2.1 (by omega) hw.2.2.2 (n + 1) (by omega)
              have h1 := wind_cell h hw.2.2.1 hw.2.2.2 n (by omega)
              have h2 := wind_cell h hw.2.2.1 hw.2.2.2 (n + 1) (by omega)
              have b1 := windSum_ok h hs hs9 hw.2.2.1 hw.2.2.2 n (by omega)
              rw [show ((n + 1 : Nat) : Int) = (n : Int) + 1 by omega] at e2 h2
              have hwy := wayOf_ok hs hs9 h1 h2
              have ih' := ih trivial
              simp only [windSum] at ih'
              have hlen : (ixs c p).length = 5 := rfl
              rw [wrap_id (x := (n : Int) + 1) (by omega) (by omega)]
              refine Ev.pos (by omega) (Ev.pos (by omega) (Ev.pos (by omega) (Ev.pos e1.1 (Ev.pos e1.2 (Ev.pos (by omega) (Ev.pos (by omega) (Ev.pos e2.1 (Ev.pos e2.2 (Ev.bnd (waySpec hs hs9 h1 h2) ?_)))))))))
              rw [wrap_id (x := windSum c l st p n + wayOf (rd l (rd (ixs c p) (n : Int))) (rd l (rd (ixs c p) ((n : Int) + 1))) st) (by omega) (by omega)]
              exact ih'
            · refine Ev.succ ?_
              simp only [spec_WindingOf.l2]
              rw [wrap_id (x := (j : Int) + 1) (by omega) (by omega)]
              exact Ev.neg (by omega) (Ev.neg (by omega) (Ev.pos (by omega) hrec))
        · refine Ev.succ ?_
          simp only [spec_WindingOf.l1]
          rw [wrap_id (x := (i : Int) + 1) (by omega) (by omega), wrap_id (x := (C : Int) + 1) (by omega) (by omega)]
          exact Ev.neg (by omega) hrec
        · refine Ev.succ ?_
          simp only [spec_WindingOf.l0]
          rw [wrap_id (x := (R : Int) + 1) (by omega) (by omega)]
          refine Ev.neg (by omega) (Ev.val ?_)
          rw [List.take_of_length_le (by simp [winds, grid_length])]
  · refine Ev.neg g (no true rfl (by rw [Bool.eq_false_iff.mpr g]; simp))
theorem windRes_len (r c : Int) (l : List Int) (st : Int) : (windRes r c l st).1.length ≤ 576 := by
  unfold windRes
  split
  · rename_i g
    rw [Bool.and_eq_true] at g
    obtain ⟨h, _, _⟩ := FieldIn.wave g.1
    have hr := h.r1; have hc := h.c1
    simp only [winds, grid_length]
    have : (r - 1).toNat * (c - 1).toNat ≤ 24 * 24 := Nat.mul_le_mul (by omega) (by omega)
    omega
  · simp

theorem szInt64S (l : List Int) (a : Int) (hl : l.length ≤ 35184372088832) (h0 : -1000000000000 ≤ a) (h1 : a ≤ 1000000000000) : laws_szInt64S.f l a = some (if a - l.length < 0 then -1 else a - l.length) := by
  unfold laws_szInt64S.f
  rw [wrap_id (x := a - l.length) (by omega) (by omega)]
  split <;> rfl

theorem szField (s r : Int) (t : List Int) (a : Int) (hl : t.length ≤ 35184372088832) (h0 : 0 ≤ a) (h1 : a ≤ 1000000000) : laws_szField.f s r t a = some (if a - t.length < 0 then -1 else a - t.length) := by
  unfold laws_szField.f
  rw [szInt64S t a hl (by omega) (by omega)]
  by_cases c : a - (t.length : Int) < 0
  · rw [if_pos c]; rfl
  · rw [if_neg c]
    show (if _ then _ else _) = _
    rw [if_neg c]

theorem toInt64S (l : List Int) (hl : l.length ≤ 35184372088832) : Ev (fun k => laws_toInt64S.f k l) l := by
  unfold laws_toInt64S.f
  refine Ev.pos (by omega) (Ev.pos (by omega) ?_)
  refine Ev.cast (Ev.upto l.length (fun _ => True) (fun i => l.take i ++ List.replicate (l.length - i) 0) l (fun k s i => laws_toInt64S.l0 k l s i) (fun i hi _ ih => ?_) (fun _ => ?_) trivial) rfl
  · refine Ev.succ ?_
    simp only [laws_toInt64S.l0]
    refine Ev.pos (by omega) (Ev.pos (by omega) (Ev.pos (by simp; omega) ?_))
    rw [wrap_id (by omega) (by omega), Int.toNat_natCast, rd_lt l i hi, take_set_rep l i hi]
    exact ih trivial
  · refine Ev.succ ?_
    simp only [laws_toInt64S.l0]
    exact Ev.neg (by omega) (Ev.val (by simp))

theorem toField (s r : Int) (t : List Int) (hl : t.length ≤ 35184372088832) : Ev (fun k => laws_toField.f k s r t) (s, r, t) := by
  unfold laws_toField.f
  exact Ev.bind (toInt64S t hl) (Ev.now _)

theorem eqInt64S (l m : List Int) (hl : l.length ≤ 35184372088832) : Ev (fun k => laws_eqInt64S.f k l m) (decide (l = m)) := by
  unfold laws_eqInt64S.f
  by_cases h : l.length = m.length
  · refine Ev.pos (by omega) ?_
    refine Ev.upto l.length (fun i => ∀ j, j < i → l[j]? = m[j]?) (fun _ => ()) _ (fun k _ i => laws_eqInt64S.l0 k l m i) (fun i hi hp ih => ?_) (fun hp => ?_) (fun j hj => by omega)
    · refine Ev.succ ?_
      simp only [laws_eqInt64S.l0]
      refine Ev.pos (by omega) (Ev.pos (by omega) (Ev.pos (by omega) ?_))
      rw [rd_lt l i (by omega), rd_lt m i (by omega)]
      by_cases e : l[i] = m[i]
      · refine Ev.pos e ?_
        rw [wrap_id (by omega) (by omega)]
        exact ih (fun j hj' => by
          by_cases hji : j < i
          · exact hp j hji
          · obtain rfl : j = i := by omega
            rw [List.getElem?_eq_getElem (by omega), List.getElem?_eq_getElem (by omega), e])
      · refine Ev.neg e (Ev.val ?_)
        rw [eq_comm, Option.some.injEq, decide_eq_false_iff_not]
        rintro rfl
        exact e rfl
    · refine Ev.succ ?_
      simp only [laws_eqInt64S.l0]
      refine Ev.neg (by omega) (Ev.val ?_)
      have : l = m := List.ext_getElem? (fun j => by
        by_cases hjl : j < l.length
        · exact hp j (by omega)
        · rw [List.getElem?_eq_none (by omega), List.getElem?_eq_none (by omega)])
      simp [this]
  · refine Ev.neg (by omega) (Ev.val ?_)
    rw [eq_comm, Option.some.injEq, decide_eq_false_iff_not]
    rintro rfl
    exact h rfl

theorem eqField (s r : Int) (t : List Int) (s' r' : Int) (t' : List Int) (hl : t.length ≤ 35184372088832) : Ev (fun k => laws_eqField.f k s r t s' r' t') (decide (s = s' ∧ r = r' ∧ t = t')) := by
  unfold laws_eqField.f
  exact Ev.cast (Ev.andP (fun _ => Ev.andP (fun _ => Ev.eqs (eqInt64S t t' hl)))) (by simp only [Bool.decide_and])

def pos1 (x : Int) : Int := if x > 0 then 1 else 0
def neg1 (x : Int) : Int := if x < 0 then 1 else 0
def cnt (f : Int → Int) (l : List Int) : Nat → Int
  | 0 => 0
  | n + 1 => cnt f l n + f (rd l (n : Int))
theorem cnt_ok (f : Int → Int) (l : List Int) (h : ∀ x, 0 ≤ f x ∧ f x ≤ 1) (n : Nat) : 0 ≤ cnt f l n ∧ cnt f l n ≤ n := by
  induction n with
  | zero => simp [cnt]
  | succ n ih => have := h (rd l (n : Int)); simp only [cnt]; omega
theorem pos1_ok (x : Int) : 0 ≤ pos1 x ∧ pos1 x ≤ 1 := by unfold pos1; split <;> omega
theorem neg1_ok (x : Int) : 0 ≤ neg1 x ∧ neg1 x ≤ 1 := by unfold neg1; split <;> omega
def spirals (r c : Int) (l : List Int) (st : Int) : Int × Int × Bool :=
  if (windRes r c l st).2 = true then (cnt pos1 (windRes r c l st).1 (windRes r c l st).1.length, cnt neg1 (windRes r c l st).1 (windRes r c l st).1.length, true) else (0, 0, false)
theorem spiralsSpec (r c : Int) (l : List Int) (st : Int) (hl : l.length ≤ 35184372088832) : Ev (fun k => spec_SpiralsOf.f k r c l st) (spirals r c l st) := by
  unfold spec_SpiralsOf.f spirals
  have hm := windRes_len r c l st
  refine Ev.bind (windSpec r c l st hl) ?_
  by_cases g : (windRes r c l st).2 = true
  · rw [if_pos g]
    refine Ev.pos g ?_
    generalize (windRes r c l st).1 = m at hm
    refine Ev.upto m.length (fun _ => True) (fun i => (cnt pos1 m i, cnt neg1 m i)) _ (fun k s i => spec_SpiralsOf.l0 k m s.1 s.2 m.length i) (fun i hi _ ih => ?_) (fun _ => ?_) trivial
    · refine Ev.succ ?_
      simp only [spec_SpiralsOf.l0]
      have h1 := cnt_ok pos1 m pos1_ok i
      have h2 := cnt_ok neg1 m neg1_ok i
      have ih' := ih trivial
      simp only [cnt] at ih'
      rw [wrap_id (x := (i : Int) + 1) (by omega) (by omega), wrap_id (x := cnt pos1 m i + 1) (by omega) (by omega), wrap_id (x := cnt neg1 m i + 1) (by omega) (by omega)]
      refine Ev.pos (by omega) (Ev.pos (by omega) (Ev.pos (by omega) ?_))
      generalize rd m (i : Int) = x at ih' ⊢
      by_cases c1 : x > 0
      · have e1 : pos1 x = 1 := by unfold pos1; rw [if_pos c1]
        have e2 : neg1 x = 0 := by unfold neg1; rw [if_neg (by omega)]
        rw [e1, e2, Int.add_zero] at ih'
        exact Ev.pos c1 (Ev.neg (by omega) ih')
      · have e1 : pos1 x = 0 := by unfold pos1; rw [if_neg c1]
        refine Ev.neg c1 ?_
        by_cases c2 : x < 0
        · have e2 : neg1 x = 1 := by unfold neg1; rw [if_pos c2]
          rw [e1, e2, Int.add_zero] at ih'
          exact Ev.pos c2 ih'
        · have e2 : neg1 x = 0 := by unfold neg1; rw [if_neg c2]
          rw [e1, e2, Int.add_zero, Int.add_zero] at ih'
          exact Ev.neg c2 ih'
    · refine Ev.succ ?_
      simp only [spec_SpiralsOf.l0]
      exact Ev.neg (by omega) (Ev.now _)
  · rw [if_neg g]
    exact Ev.neg g (Ev.now _)
theorem spiralsImpl (r c : Int) (l : List Int) (st : Int) (hl : l.length ≤ 35184372088832) : Ev (fun k => impl_SpiralsOf.f k r c l st) (spirals r c l st) := by
  unfold impl_SpiralsOf.f spirals
  have hm := windRes_len r c l st
  refine Ev.bind (windImpl r c l st hl) ?_
  by_cases g : (windRes r c l st).2 = true
  · rw [if_pos g]
    refine Ev.pos g ?_
    generalize (windRes r c l st).1 = m at hm
    refine Ev.upto m.length (fun _ => True) (fun i => (cnt pos1 m i, cnt neg1 m i)) _ (fun k s i => impl_SpiralsOf.l0 k s.1 s.2 m m.length i) (fun i hi _ ih => ?_) (fun _ => ?_) trivial
    · refine Ev.succ ?_
      simp only [impl_SpiralsOf.l0]
      have h1 := cnt_ok pos1 m pos1_ok i
      have h2 := cnt_ok neg1 m neg1_ok i
      have h3 := pos1_ok (rd m (i : Int))
      have h4 := neg1_ok (rd m (i : Int))
      have ih' := ih trivial
      simp only [cnt] at ih'
      have e1 : (if decide (rd m (i : Int) > 0) = true then (1 : Int) else 0) = pos1 (rd m (i : Int)) := by unfold pos1; simp
      have e2 : (if decide (rd m (i : Int) < 0) = true then (1 : Int) else 0) = neg1 (rd m (i : Int)) := by unfold neg1; simp
      refine Ev.pos (by omega) (Ev.pos (by omega) (Ev.pos (by omega) (Ev.bnd (bit _) (Ev.bnd (bit _) ?_))))
      rw [e1, e2, wrap_id (x := (i : Int) + 1) (by omega) (by omega), wrap_id (x := cnt pos1 m i + pos1 (rd m (i : Int))) (by omega) (by omega), wrap_id (x := cnt neg1 m i + neg1 (rd m (i : Int))) (by omega) (by omega)]
      exact ih'
    · refine Ev.succ ?_
      simp only [impl_SpiralsOf.l0]
      exact Ev.neg (by omega) (Ev.now _)
  · rw [if_neg g]
    exact Ev.neg g (Ev.now _)
theorem FnExactSpiralsOf : laws_FnExactSpiralsOf.Pure := by
  intro r c l st _ _ hz _
  have hl : l.length ≤ 17592186044415 := by omega
  refine Ev.rounds ?_
  unfold laws_FnExactSpiralsOf.f
  refine Ev.bnd (szField r c l _ (by omega) (by omega) (by omega)) ?_
  by_cases g : (1048576 : Int) - (l.length : Int) < 0
  · rw [if_pos g]
    exact Ev.pos (by omega) (Ev.now _)
  · rw [if_neg g]
    refine Ev.neg g (Ev.bind (toField r c l (by omega)) (Ev.bind (spiralsSpec r c l st (by omega)) (Ev.bind (toField r c l (by omega)) (Ev.bind (spiralsImpl r c l st (by omega)) (Ev.pos rfl (Ev.pos rfl (Ev.succ ?_)))))))
    simp only [laws_FnExactSpiralsOf.j0]
    exact Ev.neg (by simp) (Ev.bind (toField r c l (by omega)) (Ev.bind (eqField _ _ _ _ _ _ (by omega)) (Ev.pos (by simp) (Ev.now _))))

end Go.Proofs.Ytbeinhdoggfgkaa.Pure

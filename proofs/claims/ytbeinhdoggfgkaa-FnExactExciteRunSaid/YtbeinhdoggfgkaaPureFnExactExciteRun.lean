/- ExciteRun of the program and of the reference answer the same for all arguments. -/
import Derived.Test.YtbeinhdoggfgkaaPFnExactExciteRunx0
import Derived.Test.YtbeinhdoggfgkaaPFnExactExciteRunx1
import Derived.Test.YtbeinhdoggfgkaaPFnExactExciteRunx2
import Derived.Test.YtbeinhdoggfgkaaPFnExactExciteRunx3
import Derived.Test.YtbeinhdoggfgkaaLib
namespace Go.Proofs.Ytbeinhdoggfgkaa.Pure
open Go.RowKit Go.Proofs.Ytbeinhdoggfgkaa.PFnExactExciteRun Go.Proofs.YtbeinhdoggfgkaaW.PrintWords Go.Proofs.YtbeinhdoggfgkaaW.PrintLast Go.Proofs.Ytbeinhdoggfgkaa.L
set_option linter.unusedVariables false
set_option linter.unusedSimpArgs false

theorem szInt64S (l : List Int) (a : Int) (hl : l.length ≤ 35184372088832) (h0 : -1000000000000 ≤ a) (h1 : a ≤ 1000000000000) : laws_szInt64S.f l a = some (if a - l.length < 0 then -1 else a - l.length) := by
  unfold laws_szInt64S.f
  rw [wrap_id (x := a - l.length) (by omega) (by omega)]
  split <;> rfl

theorem szField (s r : Int) (t : List Int) (a : Int) (hl : t.length ≤ 35184372088832) (h0 : 0 ≤ a) (h1 : a ≤ 1000000000) : laws_szField.f s r t a = some (if a - t.length < 0 then -1 else a - t.length) := by
  unfold laws_szField.f
  rw [szInt64S t a hl (by omega) (by omega)]
  by_cases c : a - (t.length : Int) < 0
  · rw [if_pos c]; rfl
  · rw [if_neg c]
    show (if _ then _ else _) = _
    rw [if_neg c]

theorem toInt64S (l : List Int) (hl : l.length ≤ 35184372088832) : Ev (fun k => laws_toInt64S.f k l) l := by
  unfold laws_toInt64S.f
  refine Ev.pos (by omega) (Ev.pos (by omega) ?_)
  refine Ev.cast (Ev.upto l.length (fun _ => True) (fun i => l.take i ++ List.replicate (l.length - i) 0) l (fun k s i => laws_toInt64S.l0 k l s i) (fun i hi _ ih => ?_) (fun _ => ?_) trivial) rfl
  · refine Ev.succ ?_
    simp only [laws_toInt64S.l0]
    refine Ev.pos (by omega) (Ev.pos (by omega) (Ev.pos (by simp; omega) ?_))
    rw [wrap_id (by omega) (by omega), Int.toNat_natCast, rd_lt l i hi, take_set_rep l i hi]
    exact ih trivial
  · refine Ev.succ ?_
    simp only [laws_toInt64S.l0]
    exact Ev.neg (by omega) (Ev.val (by simp))

theorem toField (s r : Int) (t : List Int) (hl : t.length ≤ 35184372088832) : Ev (fun k => laws_toField.f k s r t) (s, r, t) := by
  unfold laws_toField.f
  exact Ev.bind (toInt64S t hl) (Ev.now _)

theorem eqInt64S (l m : List Int) (hl : l.length ≤ 35184372088832) : Ev (fun k => laws_eqInt64S.f k l m) (decide (l = m)) := by
  unfold laws_eqInt64S.f
  by_cases h : l.length = m.length
  · refine Ev.pos (by omega) ?_
    refine Ev.upto l.length (fun i => ∀ j, j < i → l[j]? = m[j]?) (fun _ => ()) _ (fun k _ i => laws_eqInt64S.l0 k l m i) (fun i hi hp ih => ?_) (fun hp => ?_) (fun j hj => by omega)
    · refine Ev.succ ?_
      simp only [laws_eqInt64S.l0]
      refine Ev.pos (by omega) (Ev.pos (by omega) (Ev.pos (by omega) ?_))
      rw [rd_lt l i (by omega), rd_lt m i (by omega)]
      by_cases e : l[i] = m[i]
      · refine Ev.pos e ?_
        rw [wrap_id (by omega) (by omega)]
        exact ih (fun j hj' => by
          by_cases hji : j < i
          · exact hp j hji
          · obtain rfl : j = i := by omega
            rw [List.getElem?_eq_getElem (by omega), List.getElem?_eq_getElem (by omega), e])
      · refine Ev.neg e (Ev.val ?_)
        rw [eq_comm, Option.some.injEq, decide_eq_false_iff_not]
        rintro rfl
        exact e rfl
    · refine Ev.succ ?_
      simp only [laws_eqInt64S.l0]
      refine Ev.neg (by omega) (Ev.val ?_)
      have : l = m := List.ext_getElem? (fun j => by
        by_cases hjl : j < l.length
        · exact hp j (by omega)
        · rw [List.getElem?_eq_none (by omega), List.getElem?_eq_none (by omega)])
      simp [this]
  · refine Ev.neg (by omega) (Ev.val ?_)
    rw [eq_comm, Option.some.injEq, decide_eq_false_iff_not]
    rintro rfl
    exact h rfl

theorem eqField (s r : Int) (t : List Int) (s' r' : Int) (t' : List Int) (hl : t.length ≤ 35184372088832) : Ev (fun k => laws_eqField.f k s r t s' r' t') (decide (s = s' ∧ r = r' ∧ t = t')) := by
  unfold laws_eqField.f
  exact Ev.cast (Ev.andP (fun _ => Ev.andP (fun _ => Ev.eqs (eqInt64S t t' hl)))) (by simp only [Bool.decide_and])

theorem markInt64S (l : List Int) (a : Int) (hl : l.length ≤ 35184372088832) (h0 : -1 ≤ a) (h1 : a ≤ 1000000000000) : Ev (fun k => laws_markInt64S.f k l a) (a + l.length, marks a l.length) := by
  unfold laws_markInt64S.f
  refine Ev.congr (fun k => ?_) (Ev.upto l.length (fun _ => True) (fun i => (marks a i ++ l.drop i, a + (i : Int))) (a + l.length, marks a l.length) (fun k s i => laws_markInt64S.l0 k s.1 s.2 i) (fun i hi _ ih => ?_) (fun _ => ?_) trivial)
  · simp [marks]
  · refine Ev.succ ?_
    simp only [laws_markInt64S.l0]
    refine Ev.pos (by rw [List.length_append, marks_length, List.length_drop]; omega) (Ev.pos (by omega) ?_)
    rw [wrap_id (x := (i : Int) + 1) (by omega) (by omega), wrap_id (x := a + (i : Int) + 1) (by omega) (by omega), Int.toNat_natCast, marks_step a l i hi]
    have := ih trivial
    rw [show a + ((i + 1 : Nat) : Int) = a + (i : Int) + 1 by omega] at this
    exact this
  · refine Ev.succ ?_
    simp only [laws_markInt64S.l0]
    have e : marks a l.length ++ l.drop l.length = marks a l.length := by rw [List.drop_length, List.append_nil]
    rw [e]
    exact Ev.neg (by rw [marks_length]; omega) (Ev.now _)

theorem heldInt64S (n : Nat) (a : Int) (hl : n ≤ 35184372088832) (h0 : -1 ≤ a) (h1 : a ≤ 1000000000000) : Ev (fun k => laws_heldInt64S.f k (marks a n) a) (a + n) := by
  unfold laws_heldInt64S.f
  refine Ev.congr (fun k => ?_) (Ev.upto n (fun _ => True) (fun i => a + (i : Int)) (a + n) (fun k s i => laws_heldInt64S.l0 k (marks a n) s i) (fun i hi _ ih => ?_) (fun _ => ?_) trivial)
  · simp
  · refine Ev.succ ?_
    simp only [laws_heldInt64S.l0]
    refine Ev.pos (by rw [marks_length]; omega) (Ev.pos (by omega) (Ev.pos ?_ ?_))
    · rw [rd_lt _ i (by rw [marks_length]; exact hi), marks_get a n i hi]
    · rw [wrap_id (x := (i : Int) + 1) (by omega) (by omega), wrap_id (x := a + (i : Int) + 1) (by omega) (by omega)]
      have := ih trivial
      rw [show a + ((i + 1 : Nat) : Int) = a + (i : Int) + 1 by omega] at this
      exact this
  · refine Ev.succ ?_
    simp only [laws_heldInt64S.l0]
    exact Ev.neg (by rw [marks_length]; omega) (Ev.val rfl)

theorem markField (s r : Int) (t : List Int) (a : Int) (hl : t.length ≤ 35184372088832) (h0 : -1 ≤ a) (h1 : a ≤ 1000000000000) : Ev (fun k => laws_markField.f k s r t a) (a + t.length, marks a t.length) := by
  unfold laws_markField.f
  exact Ev.bind (markInt64S t a hl h0 h1) (Ev.now _)
theorem heldField (s r : Int) (n : Nat) (a : Int) (hl : n ≤ 35184372088832) (h0 : 0 ≤ a) (h1 : a ≤ 1000000000000) : Ev (fun k => laws_heldField.f k s r (marks a n) a) (a + n) := by
  unfold laws_heldField.f
  exact Ev.bind (heldInt64S n a hl (by omega) h1) (Ev.neg (by omega) (Ev.now _))

/-- The place on a ring, from 0 on. -/
def fm (x : Int) (n : Int) : Int := Int.tmod (wrap64 ((Int.tmod x n) + n)) n
theorem fm_ok (x n : Int) (h0 : 0 < n) (hn : n ≤ 1000000000000) : 0 ≤ fm x n ∧ fm x n < n := by
  unfold fm
  have h1 := Int.tmod_lt_of_pos x h0
  have h2 : -n < Int.tmod x n := by
    have := Int.tmod_lt_of_pos (-x) h0
    rw [Int.neg_tmod] at this
    omega
  rw [wrap_id (x := Int.tmod x n + n) (by omega) (by omega)]
  exact ⟨Int.tmod_nonneg _ (by omega), Int.tmod_lt_of_pos _ h0⟩

/-- A field, as facts: cells up to M. -/
structure FieldIn (M r c : Int) (l : List Int) : Prop where
  r0 : 1 ≤ r
  r1 : r ≤ 24
  c0 : 1 ≤ c
  c1 : c ≤ 24
  n : (l.length : Int) = r * c
  all : ∀ x ∈ l, 0 ≤ x ∧ x ≤ M
theorem FieldIn.of {r c : Int} {l : List Int} (h : validField r c l = true) : FieldIn 9 r c l := by
  unfold validField at h
  simp only [Bool.and_eq_true, decide_eq_true_eq] at h
  exact ⟨h.1.1.1.1, h.1.1.1.2, h.1.1.2.1, h.1.1.2.2, h.1.2, allIn_iff.1 h.2⟩
/-- The cell of a row and a column. -/
def cell (c : Int) (l : List Int) (i k : Int) : Int := rd l (i * c + k)
theorem cell_in {M r c : Int} {l : List Int} (h : FieldIn M r c l) {i k : Int} (hi : 0 ≤ i ∧ i < r) (hk : 0 ≤ k ∧ k < c) : 0 ≤ i * c ∧ i * c ≤ 576 ∧ 0 ≤ i * c + k ∧ i * c + k < l.length := by
  have h0 := h.c0
  have h1 : 0 ≤ i * c := Int.mul_nonneg hi.1 (by omega)
  have h2 : i * c ≤ (r - 1) * c := Int.mul_le_mul_of_nonneg_right (by omega) (by omega)
  have h3 : i * c ≤ 24 * c := Int.mul_le_mul_of_nonneg_right (by have := h.r1; omega) (by omega)
  have := h.c1
  rw [Int.sub_mul, Int.one_mul, ← h.n] at h2
  omega
theorem cell_ok {M r c : Int} {l : List Int} (h : FieldIn M r c l) {i k : Int} (hi : 0 ≤ i ∧ i < r) (hk : 0 ≤ k ∧ k < c) : 0 ≤ cell c l i k ∧ cell c l i k ≤ M :=
  h.all _ (rd_mem l _ (cell_in h hi hk).2.2.1 (cell_in h hi hk).2.2.2)
/-- A cell, round and round, or 0 beyond the border. -/
def look (r c : Int) (l : List Int) (b : Bool) (i k : Int) : Int :=
  if b = true then cell c l (fm i r) (fm k c) else if (0 ≤ i ∧ i ≤ r - 1) ∧ 0 ≤ k ∧ k ≤ c - 1 then cell c l i k else 0
theorem look_ok {M r c : Int} {l : List Int} (h : FieldIn M r c l) (hM : 0 ≤ M) (b : Bool) (i k : Int) : 0 ≤ look r c l b i k ∧ look r c l b i k ≤ M := by
  have h1 := fm_ok i r (by have := h.r0; omega) (by have := h.r1; omega)
  have h2 := fm_ok k c (by have := h.c0; omega) (by have := h.c1; omega)
  unfold look
  split
  · exact cell_ok h h1 h2
  · split
    · rename_i g
      exact cell_ok h ⟨g.1.1, by omega⟩ ⟨g.2.1, by omega⟩
    · omega
theorem fm_self {x n : Int} (h0 : 0 ≤ x) (h1 : x < n) (hn : n ≤ 1000000000000) : fm x n = x := by
  unfold fm
  rw [Int.tmod_eq_of_lt h0 h1, wrap_id (x := x + n) (by omega) (by omega), Int.tmod_eq_emod_of_nonneg (by omega), Int.add_emod_right, Int.emod_eq_of_lt h0 h1]
theorem look_here {M r c : Int} {l : List Int} (h : FieldIn M r c l) (b : Bool) {i k : Int} (hi : 0 ≤ i ∧ i < r) (hk : 0 ≤ k ∧ k < c) : look r c l b i k = cell c l i k := by
  unfold look
  rw [fm_self hi.1 hi.2 (by have := h.r1; omega), fm_self hk.1 hk.2 (by have := h.c1; omega), if_pos (show (0 ≤ i ∧ i ≤ r - 1) ∧ 0 ≤ k ∧ k ≤ c - 1 by omega)]
  split <;> rfl
/-- The sum of the eight cells around one. -/
def aroundOf (r c : Int) (l : List Int) (b : Bool) (i k : Int) : Int := sum3 (fun a => sum3 (fun d => look r c l b a d) k 3) i 3 - cell c l i k
/-- The same, without the cell itself. -/
def ringOf (r c : Int) (l : List Int) (b : Bool) (i k a d : Int) : Int := if a = i ∧ d = k then 0 else look r c l b a d
theorem around_eq {M r c : Int} {l : List Int} (h : FieldIn M r c l) (b : Bool) {i k : Int} (hi : 0 ≤ i ∧ i < r) (hk : 0 ≤ k ∧ k < c) :
    sum3 (fun a => sum3 (fun d => ringOf r c l b i k a d) k 3) i 3 = aroundOf r c l b i k := by
  have e := look_here h b hi hk
  unfold aroundOf
  rw [← e]
  simp only [sum3, ringOf]
  have ei : i - 1 + ((1 : Nat) : Int) = i := by omega
  have ek : k - 1 + ((1 : Nat) : Int) = k := by omega
  have e0 : ((0 : Nat) : Int) = 0 := rfl
  have e2 : ((2 : Nat) : Int) = 2 := rfl
  rw [ei, ek, e0, e2, if_neg (show ¬ (i - 1 + 0 = i ∧ k - 1 + 0 = k) by omega), if_neg (show ¬ (i - 1 + 0 = i ∧ k = k) by omega), if_neg (show ¬ (i - 1 + 0 = i ∧ k - 1 + 2 = k) by omega), if_neg (show ¬ (i = i ∧ k - 1 + 0 = k) by omega), if_pos (show i = i ∧ k = k from ⟨rfl, rfl⟩), if_neg (show ¬ (i = i ∧ k - 1 + 2 = k) by omega), if_neg (show ¬ (i - 1 + 2 = i ∧ k - 1 + 0 = k) by omega), if_neg (show ¬ (i - 1 + 2 = i ∧ k = k) by omega), if_neg (show ¬ (i - 1 + 2 = i ∧ k - 1 + 2 = k) by omega)]
  omega

theorem fieldAt {M r c : Int} {l : List Int} (h : FieldIn M r c l) {i k : Int} (hi : 0 ≤ i ∧ i < r) (hk : 0 ≤ k ∧ k < c) : impl_Field_at.f r c l i k = some (cell c l i k) := by
  have hc := cell_in h hi hk
  have := h.c1
  unfold impl_Field_at.f
  rw [wrap_id (x := i * c) (by omega) (by omega), wrap_id (x := i * c + k) (by omega) (by omega), if_pos hc.2.2.1, if_pos hc.2.2.2]
  rfl

theorem floorMod (a b : Int) (h : b ≠ 0) : impl_floorMod.f a b = some (fm a b) := by unfold impl_floorMod.f; rw [if_neg h]; rfl

theorem within (a b c : Int) : impl_within.f a b c = some (decide (b ≤ a ∧ a ≤ c)) := by
  unfold impl_within.f
  by_cases h : a ≥ b
  · rw [if_pos h]; simp; omega
  · rw [if_neg h]; simp; omega

theorem fieldLook {M r c : Int} {l : List Int} (h : FieldIn M r c l) (b : Bool) (i k : Int) : impl_Field_look.f r c l i k b = some (look r c l b i k) := by
  have := h.r0; have := h.r1; have := h.c0; have := h.c1
  have h1 := fm_ok i r (by omega) (by omega)
  have h2 := fm_ok k c (by omega) (by omega)
  unfold impl_Field_look.f look impl_Field_has.f
  by_cases hb : b = true
  · rw [if_pos hb, if_pos hb, floorMod _ _ (by omega), floorMod _ _ (by omega)]
    simp only [Option.bind_some]
    rw [fieldAt h h1 h2]; rfl
  · rw [if_neg hb, if_neg hb, wrap_id (x := r - 1) (by omega) (by omega), wrap_id (x := c - 1) (by omega) (by omega), within, within]
    simp only [Option.bind_some]
    by_cases c1 : 0 ≤ i ∧ i ≤ r - 1
    · rw [decide_eq_true c1, if_pos rfl]
      simp only [Option.bind_some]
      by_cases c2 : 0 ≤ k ∧ k ≤ c - 1
      · rw [decide_eq_true c2, if_pos rfl, fieldAt h ⟨c1.1, by omega⟩ ⟨c2.1, by omega⟩, if_pos ⟨c1, c2⟩]; rfl
      · rw [decide_eq_false c2, if_neg (by simp), if_neg (fun g => c2 g.2)]
    · rw [decide_eq_false c1, if_neg (by simp)]
      simp only [Option.bind_some]
      rw [if_neg (by simp), if_neg (fun g => c1 g.1)]

theorem bit (b : Bool) : impl_bit.f b = some (if b = true then 1 else 0) := by
  unfold impl_bit.f
  split <;> rfl

theorem l00In (a b c : Int) : spec_l00In.f a b c = some (decide (b ≤ a ∧ a ≤ c)) := by
  unfold spec_l00In.f
  by_cases h : a ≥ b
  · rw [if_pos h]; simp; omega
  · rw [if_neg h]; simp; omega

theorem areWithin (l : List Int) (a b : Int) (hl : l.length ≤ 35184372088832) : Ev (fun k => impl_areWithin.f k l a b) (allIn l a b) := by
  unfold impl_areWithin.f
  refine Ev.upto l.length (fun i => ∀ j, (hj : j < l.length) → j < i → a ≤ l[j] ∧ l[j] ≤ b) (fun _ => ()) _ (fun k _ i => impl_areWithin.l0 k a b l l.length i) (fun i hi hp ih => ?_) (fun hp => ?_) (fun j hj h => by omega)
  · refine Ev.succ ?_
    simp only [impl_areWithin.l0]
    refine Ev.pos (by omega) (Ev.pos (by omega) (Ev.pos (by omega) ?_))
    rw [rd_lt l i (by omega), wrap_id (by omega) (by omega), within]
    by_cases c : a ≤ l[i] ∧ l[i] ≤ b
    · exact Ev.bnd rfl (Ev.pos (by simpa using c) (ih (upTo_succ (p := fun x => a ≤ x ∧ x ≤ b) hi hp c)))
    · exact Ev.bnd rfl (Ev.neg (by simpa using c) (Ev.val (by rw [allIn_false i (by omega) c])))
  · refine Ev.succ ?_
    simp only [impl_areWithin.l0]
    exact Ev.neg (by omega) (Ev.val (by rw [allIn_true (fun j hj' => hp j hj' (by omega))]))

theorem areMany (l : List Int) (a b c d : Int) (hl : l.length ≤ 35184372088832) : Ev (fun k => impl_areMany.f k l a b c d) (decide (a ≤ l.length ∧ l.length ≤ b) && allIn l c d) := by
  unfold impl_areMany.f
  refine Ev.bnd (within _ _ _) ?_
  by_cases h : a ≤ l.length ∧ l.length ≤ b
  · refine Ev.pos (by simpa using h) (Ev.cast (Ev.bind (areWithin l c d hl) (Ev.now _)) (by simp [h]))
  · exact Ev.neg (by simpa using h) (Ev.val (by simp [h]))

theorem isSide (r : Int) : impl_isSide.f r = some (decide (1 ≤ r ∧ r ≤ 24)) := by
  unfold impl_isSide.f
  rw [within]; rfl
theorem ValidField (r c : Int) (l : List Int) (hl : l.length ≤ 35184372088832) : Ev (fun k => impl_ValidField.f k r c l) (validField r c l) := by
  unfold impl_ValidField.f validField
  refine Ev.cast (Ev.andB (isSide r) (fun hr => Ev.andB (isSide c) (fun hc => ?_))) (by rw [← Bool.and_assoc, ← Bool.and_assoc])
  rw [decide_eq_true_eq] at hr hc
  have hm1 : 0 ≤ r * c := Int.mul_nonneg (by omega) (by omega)
  have hm2 : r * c ≤ 24 * c := Int.mul_le_mul_of_nonneg_right hr.2 (by omega)
  rw [wrap_id (x := r * c) (by omega) (by omega)]
  refine Ev.cast (Ev.ret (areMany l _ _ 0 9 hl)) ?_
  congr 1
  exact decide_eq_decide.mpr (by omega)

theorem l04Is (r c : Int) (l : List Int) (hl : l.length ≤ 35184372088832) : Ev (fun k => spec_l04Is.f k r c l) (validField r c l) := by
  unfold spec_l04Is.f validField
  refine Ev.bnd (l00In r 1 24) ?_
  by_cases hr : 1 ≤ r ∧ r ≤ 24
  · refine Ev.pos (by simpa using hr) (Ev.bnd (l00In c 1 24) ?_)
    by_cases hc : 1 ≤ c ∧ c ≤ 24
    · have hm1 : 0 ≤ r * c := Int.mul_nonneg (by omega) (by omega)
      have hm2 : r * c ≤ 24 * c := Int.mul_le_mul_of_nonneg_right hr.2 (by omega)
      rw [wrap_id (x := r * c) (by omega) (by omega)]
      refine Ev.pos (by simpa using hc) (Ev.succ ?_)
      simp only [spec_l04Is.j0]
      by_cases hn : (l.length : Int) = r * c
      · refine Ev.neg (by simp [hn]) ?_
        rw [decide_eq_true hr, decide_eq_true hc, decide_eq_true hn, Bool.true_and, Bool.true_and, Bool.true_and]
        refine Ev.upto l.length (fun i => ∀ j, (hj : j < l.length) → j < i → 0 ≤ l[j] ∧ l[j] ≤ 9) (fun _ => ()) _ (fun k _ i => spec_l04Is.l0 k i r c l) (fun i hi hp ih => ?_) (fun hp => ?_) (fun j hj h => by omega)
        · refine Ev.succ ?_
          simp only [spec_l04Is.l0]
          refine Ev.pos (by omega) (Ev.pos (by omega) ?_)
          rw [rd_lt l i (by omega), wrap_id (x := (i : Int) + 1) (by omega) (by omega)]
          refine Ev.bnd (l00In _ _ _) ?_
          by_cases c : 0 ≤ l[i] ∧ l[i] ≤ 9
          · exact Ev.pos (by simpa using c) (ih (upTo_succ (p := fun x => 0 ≤ x ∧ x ≤ 9) hi hp c))
          · exact Ev.neg (by simpa using c) (Ev.val (by rw [allIn_false i (by omega) c]))
        · refine Ev.succ ?_
          simp only [spec_l04Is.l0]
          exact Ev.neg (by omega) (Ev.val (by rw [allIn_true (fun j hj' => hp j hj' (by omega))]))
      · exact Ev.pos (by simp [hn]) (Ev.val (by simp [hn]))
    · refine Ev.neg (by simpa using hc) (Ev.succ ?_)
      simp only [spec_l04Is.j0]
      exact Ev.pos (by trivial) (Ev.val (by simp [hc]))
  · refine Ev.neg (by simpa using hr) (Ev.succ ?_)
    simp only [spec_l04Is.j0]
    exact Ev.pos (by trivial) (Ev.val (by simp [hr]))

theorem fm_emod (x n : Int) (h0 : 0 < n) (hn : n ≤ 1000000000000) : fm x n = x % n := by
  unfold fm
  have h1 := Int.tmod_lt_of_pos x h0
  have h2 : -n < Int.tmod x n := by
    have := Int.tmod_lt_of_pos (-x) h0
    rw [Int.neg_tmod] at this
    omega
  rw [wrap_id (x := Int.tmod x n + n) (by omega) (by omega), Int.tmod_eq_emod_of_nonneg (by omega), Int.add_emod_right, Int.tmod_def]
  exact Int.sub_mul_emod_self_left x n _
/-- 1 for a cell that is 1. -/
def one1 (x : Int) : Int := if x = 1 then 1 else 0
theorem one1_ok (x : Int) : 0 ≤ one1 x ∧ one1 x ≤ 1 := by unfold one1; split <;> omega
/-- How many of the four neighbours are 1. -/
def hotOf (r c : Int) (l : List Int) (b : Bool) (i k : Int) : Int := one1 (look r c l b (i - 1) k) + one1 (look r c l b (i + 1) k) + one1 (look r c l b i (k - 1)) + one1 (look r c l b i (k + 1))
/-- The next state of a cell. -/
def exciteAt (r c : Int) (l : List Int) (st bar : Int) (b : Bool) (i k : Int) : Int := if cell c l i k > 0 then Int.tmod (cell c l i k + 1) st else (if hotOf r c l b i k ≥ bar then 1 else 0)
def exciteOf (r c : Int) (l : List Int) (st bar : Int) (b : Bool) : List Int := grid r.toNat c.toNat fun i k => exciteAt r c l st bar b (i : Int) (k : Int)
theorem exciteAt_ok {r c st : Int} {l : List Int} (h : FieldIn (st - 1) r c l) (hs : 3 ≤ st) (bar : Int) (b : Bool) {i k : Int} (hi : 0 ≤ i ∧ i < r) (hk : 0 ≤ k ∧ k < c) : 0 ≤ exciteAt r c l st bar b i k ∧ exciteAt r c l st bar b i k ≤ st - 1 := by
  have hc := cell_ok h hi hk
  unfold exciteAt
  split
  · have h1 := Int.tmod_lt_of_pos (cell c l i k + 1) (show 0 < st by omega)
    have h2 := Int.tmod_nonneg st (show 0 ≤ cell c l i k + 1 by omega)
    omega
  · split <;> omega
theorem exciteOf_in {r c st : Int} {l : List Int} (h : FieldIn (st - 1) r c l) (hs : 3 ≤ st) (bar : Int) (b : Bool) : FieldIn (st - 1) r c (exciteOf r c l st bar b) := by
  have := h.r0; have := h.c0
  refine ⟨h.r0, h.r1, h.c0, h.c1, ?_, grid_mem (p := fun x => 0 ≤ x ∧ x ≤ st - 1) (fun i j hi hj => exciteAt_ok h hs bar b ⟨by omega, by omega⟩ ⟨by omega, by omega⟩)⟩
  rw [exciteOf, grid_length]; push_cast
  rw [Int.toNat_of_nonneg (by omega), Int.toNat_of_nonneg (by omega)]
theorem exciteLiteral {r c st : Int} {l : List Int} (h : FieldIn (st - 1) r c l) (hs : 3 ≤ st) (hs9 : st ≤ 9) (bar : Int) (b : Bool) {i k : Int} (hi : 0 ≤ i ∧ i < r) (hk : 0 ≤ k ∧ k < c) : Ev (fun n => impl_Field_excite_1.f n i k r c l st b bar) (exciteAt r c l st bar b i k) := by
  unfold impl_Field_excite_1.f exciteAt
  have hc := cell_ok h hi hk
  have := h.r1; have := h.c1
  refine Ev.bnd (fieldAt h hi hk) ?_
  by_cases g : cell c l i k > 0
  · rw [if_pos g, wrap_id (x := cell c l i k + 1) (by omega) (by omega)]
    exact Ev.pos g (Ev.neg (by omega) (Ev.now _))
  · rw [if_neg g, wrap_id (x := i - 1) (by omega) (by omega), wrap_id (x := i + 1) (by omega) (by omega), wrap_id (x := k - 1) (by omega) (by omega), wrap_id (x := k + 1) (by omega) (by omega)]
    refine Ev.neg g ?_
    have o1 := one1_ok (look r c l b (i - 1) k)
    have o2 := one1_ok (look r c l b (i + 1) k)
    have o3 := one1_ok (look r c l b i (k - 1))
    have o4 := one1_ok (look r c l b i (k + 1))
    have bt1 : ∀ x : Int, impl_bit.f (x == 1) = some (one1 x) := fun x => by rw [bit]; simp [one1]
    have st1 : ∀ (s j p q x : Int) (R : Int), 0 ≤ s → s ≤ 4 → 0 ≤ j → j < 4 → rd [i - 1, i + 1, i, i] j = p → rd [k, k, k - 1, k + 1] j = q → look r c l b p q = x → Ev (fun n => impl_Field_excite_1.l0 n (s + one1 x) (j + 1) (i - 1) k (i + 1) k i (k - 1) i (k + 1) r c l b bar) R → Ev (fun n => impl_Field_excite_1.l0 n s j (i - 1) k (i + 1) k i (k - 1) i (k + 1) r c l b bar) R := by
      intro s j p q x R hs0 hs1 hj0 hj1 hp hq hx hn
      refine Ev.succ ?_
      simp only [impl_Field_excite_1.l0]
      have ox := one1_ok x
      refine Ev.pos hj1 (Ev.pos hj0 (Ev.bnd (by rw [hp, hq]; exact fieldLook h b p q) (Ev.bnd (by rw [hx]; exact bt1 x) ?_)))
      rw [wrap_id (x := s + one1 x) (by omega) (by omega), wrap_id (x := j + 1) (by omega) (by omega)]
      exact hn
    refine st1 0 0 (i - 1) k (look r c l b (i - 1) k) _ (by omega) (by omega) (by omega) (by omega) rfl rfl rfl (st1 _ 1 (i + 1) k (look r c l b (i + 1) k) _ (by omega) (by omega) (by omega) (by omega) rfl rfl rfl (st1 _ 2 i (k - 1) (look r c l b i (k - 1)) _ (by omega) (by omega) (by omega) (by omega) rfl rfl rfl (st1 _ 3 i (k + 1) (look r c l b i (k + 1)) _ (by omega) (by omega) (by omega) (by omega) rfl rfl rfl (Ev.succ ?_))))
    simp only [impl_Field_excite_1.l0]
    refine Ev.neg (by omega) (Ev.bnd (bit _) (Ev.val ?_))
    have e : 0 + one1 (look r c l b (i - 1) k) + one1 (look r c l b (i + 1) k) + one1 (look r c l b i (k - 1)) + one1 (look r c l b i (k + 1)) = hotOf r c l b i k := by unfold hotOf; omega
    rw [e]
    simp
theorem exciteImpl {r c st : Int} {l : List Int} (h : FieldIn (st - 1) r c l) (hs : 3 ≤ st) (hs9 : st ≤ 9) (bar : Int) (b : Bool) : Ev (fun n => impl_Field_excite.f n r c l st bar b) (r, c, exciteOf r c l st bar b) := by
  unfold impl_Field_excite.f impl_madeField_impl_Field_excite_1.f
  refine Ev.bind (a := (r, c, exciteOf r c l st bar b)) ?_ (Ev.now _)
  have hr0 := h.r0; have hr1 := h.r1; have hc0 := h.c0; have hc1 := h.c1
  obtain ⟨R, rfl⟩ := Int.eq_ofNat_of_zero_le (show 0 ≤ r by omega)
  obtain ⟨C, rfl⟩ := Int.eq_ofNat_of_zero_le (show 0 ≤ c by omega)
  have hg := grid_length R C fun i k => exciteAt R C l st bar b (i : Int) (k : Int)
  refine Ev.congr (fun n => ?_) (Ev.grid R C (fun m => (exciteOf R C l st bar b).take m) ((R : Int), (C : Int), exciteOf R C l st bar b) (fun n s i => impl_madeField_impl_Field_excite_1.l0 n C R i R C l st b bar R C s) (fun n s i j => impl_madeField_impl_Field_excite_1.l1 n C i R i C j R C l st b bar R C s) (fun i hi ih => ?_) (fun i j hi hj ih => ?_) (fun i hi ih => ?_) ?_)
  · simp
  · refine Ev.succ ?_
    simp only [impl_madeField_impl_Field_excite_1.l0]
    exact Ev.pos (by omega) ih
  · refine Ev.succ ?_
    simp only [impl_madeField_impl_Field_excite_1.l1]
    have hlt := grid_in hi hj
    have hm : R * C ≤ 24 * 24 := Nat.mul_le_mul (by omega) (by omega)
    refine Ev.pos (by omega) (Ev.bind (exciteLiteral h hs hs9 bar b ⟨by omega, by omega⟩ ⟨by omega, by omega⟩) (Ev.pos ?_ ?_))
    · rw [List.length_take]; omega
    · rw [wrap_id (x := (j : Int) + 1) (by omega) (by omega)]
      have e := grid_take R C (fun i k => exciteAt R C l st bar b (i : Int) (k : Int)) i j hi hj
      have e' : (exciteOf R C l st bar b).take (i * C + j) ++ [exciteAt R C l st bar b i j] = (exciteOf R C l st bar b).take (i * C + j + 1) := e.symm
      rw [e']
      exact ih
  · refine Ev.succ ?_
    simp only [impl_madeField_impl_Field_excite_1.l1]
    rw [wrap_id (x := (i : Int) + 1) (by omega) (by omega)]
    exact Ev.neg (by omega) ih
  · refine Ev.succ ?_
    simp only [impl_madeField_impl_Field_excite_1.l0]
    refine Ev.neg (by omega) (Ev.val ?_)
    rw [List.take_of_length_le (by rw [exciteOf, Int.toNat_natCast, Int.toNat_natCast, hg]; exact Nat.le_refl _)]
/-- A field of waves. -/
def waveField (r c : Int) (l : List Int) (st : Int) : Bool := decide (3 ≤ st ∧ st ≤ 9) && (validField r c l && allIn l 0 (st - 1))
theorem FieldIn.wave {r c st : Int} {l : List Int} (h : waveField r c l st = true) : FieldIn (st - 1) r c l ∧ 3 ≤ st ∧ st ≤ 9 := by
  unfold waveField at h
  simp only [Bool.and_eq_true, decide_eq_true_eq] at h
  have h1 := FieldIn.of h.2.1
  exact ⟨⟨h1.r0, h1.r1, h1.c0, h1.c1, h1.n, allIn_iff.1 h.2.2⟩, h.1⟩
theorem waveImpl (r c : Int) (l : List Int) (st : Int) (hl : l.length ≤ 35184372088832) : Ev (fun k => impl_isWave.f k r c l st) (waveField r c l st) := by
  unfold impl_isWave.f impl_areWaveStates.f waveField
  rw [within]
  simp only [Option.bind_some]
  refine Ev.andB rfl (fun hs => ?_)
  rw [decide_eq_true_eq] at hs
  rw [wrap_id (x := st - 1) (by omega) (by omega)]
  exact Ev.and (ValidField r c l hl) (fun _ => Ev.ret (areWithin l 0 (st - 1) hl))
theorem waveSpec (r c : Int) (l : List Int) (st : Int) (hl : l.length ≤ 35184372088832) : Ev (fun k => spec_l07Waves.f k r c l st) (waveField r c l st) := by
  unfold spec_l07Waves.f spec_l07States.f waveField
  rw [l00In]
  simp only [Option.bind_some]
  by_cases hs : 3 ≤ st ∧ st ≤ 9
  · rw [decide_eq_true hs, Bool.true_and]
    refine Ev.pos (by trivial) (Ev.bind (l04Is r c l hl) (Ev.succ ?_))
    simp only [spec_l07Waves.j0]
    by_cases hv : validField r c l = true
    · rw [hv, Bool.true_and]
      have hf := FieldIn.of hv
      refine Ev.neg (by simp) (Ev.upto l.length (fun i => ∀ j, (hj : j < l.length) → j < i → 0 ≤ l[j] ∧ l[j] ≤ st - 1) (fun _ => ()) _ (fun k _ i => spec_l07Waves.l0 k st l.length i r c l) (fun i hi hp ih => ?_) (fun hp => ?_) (fun j hj h => by omega))
      · refine Ev.succ ?_
        simp only [spec_l07Waves.l0]
        refine Ev.pos (by omega) (Ev.pos (by omega) (Ev.pos (by omega) ?_))
        have hx := hf.all l[i] (List.getElem_mem hi)
        rw [rd_lt l i hi, wrap_id (x := (i : Int) + 1) (by omega) (by omega)]
        by_cases g : l[i] ≥ st
        · exact Ev.pos g (Ev.val (by rw [allIn_false i hi (by omega)]))
        · exact Ev.neg g (ih (upTo_succ (p := fun x => 0 ≤ x ∧ x ≤ st - 1) hi hp (by omega)))
      · refine Ev.succ ?_
        simp only [spec_l07Waves.l0]
        exact Ev.neg (by omega) (Ev.val (by rw [allIn_true (fun j hj' => hp j hj' (by omega))]))
    · rw [Bool.eq_false_iff.mpr hv, Bool.false_and]
      exact Ev.pos (by simp) (Ev.now _)
  · rw [decide_eq_false hs, Bool.false_and]
    refine Ev.neg (by simp) (Ev.succ ?_)
    simp only [spec_l07Waves.j0]
    exact Ev.pos (by trivial) (Ev.now _)

/-- A neighbour's place, if there is one. -/
def nb (r c : Int) (b : Bool) (p q : Int) : List Int := if b = true then [fm p r * c + fm q c] else if (0 ≤ p ∧ p ≤ r - 1) ∧ 0 ≤ q ∧ q ≤ c - 1 then [p * c + q] else []
theorem nb_len (r c : Int) (b : Bool) (p q : Int) : (nb r c b p q).length ≤ 1 := by
  unfold nb
  split
  · simp
  · split <;> simp
theorem nb_in {M r c : Int} {l : List Int} (h : FieldIn M r c l) (b : Bool) (p q : Int) : ∀ x ∈ nb r c b p q, 0 ≤ x ∧ x < l.length := by
  intro x hx
  have h1 := fm_ok p r (by have := h.r0; omega) (by have := h.r1; omega)
  have h2 := fm_ok q c (by have := h.c0; omega) (by have := h.c1; omega)
  unfold nb at hx
  split at hx
  · rw [List.mem_singleton] at hx
    subst hx
    exact ⟨(cell_in h h1 h2).2.2.1, (cell_in h h1 h2).2.2.2⟩
  · split at hx
    · rename_i g
      rw [List.mem_singleton] at hx
      subst hx
      have := cell_in h (i := p) (k := q) ⟨g.1.1, by omega⟩ ⟨g.2.1, by omega⟩
      exact ⟨this.2.2.1, this.2.2.2⟩
    · simp at hx
/-- How many cells of places are 1. -/
def ones (l L : List Int) : Int := (L.map fun x => one1 (rd l x)).sum
theorem ones_nb (r c : Int) (l : List Int) (b : Bool) (p q : Int) : ones l (nb r c b p q) = one1 (look r c l b p q) := by
  unfold ones nb look cell
  split
  · simp
  · split
    · simp
    · simp [one1]
theorem ones_append (l A B : List Int) : ones l (A ++ B) = ones l A + ones l B := by unfold ones; rw [List.map_append, List.sum_append]
theorem ones_ok (l L : List Int) : 0 ≤ ones l L ∧ ones l L ≤ L.length := by
  unfold ones
  have := sum_bound (L.map fun x => one1 (rd l x)) 0 1 (fun x hx => by
    rw [List.mem_map] at hx
    obtain ⟨y, _, rfl⟩ := hx
    exact one1_ok _)
  rw [List.length_map] at this
  omega
theorem four {M r c : Int} {l : List Int} (h : FieldIn M r c l) (b : Bool) {i k : Int} (hi : 0 ≤ i ∧ i < r) (hk : 0 ≤ k ∧ k < c) : Ev (fun n => spec_l07Four.f n r c i k b) (nb r c b (i - 1) k ++ nb r c b (i + 1) k ++ nb r c b i (k - 1) ++ nb r c b i (k + 1)) := by
  have := h.r0; have := h.r1; have := h.c0; have := h.c1
  unfold spec_l07Four.f
  have st1 : ∀ (A : List Int) (j p q : Int) (R : List Int), A.length ≤ 4 → 0 ≤ j → j < 4 → -1 ≤ p → p ≤ r → -1 ≤ q → q ≤ c → Ev (fun n => spec_l07Four.l0 n r c i k b (A ++ nb r c b p q) (j + 1)) R → Ev (fun n => spec_l07Four.j1 n r c i k b A j p q) R := by
    intro A j p q R hA hj0 hj1 hp0 hp1 hq0 hq1 hn
    refine Ev.succ ?_
    simp only [spec_l07Four.j1]
    have last : ∀ p' q', (if (0 ≤ p' ∧ p' ≤ r - 1) ∧ 0 ≤ q' ∧ q' ≤ c - 1 then [p' * c + q'] else []) = nb r c b p q → Ev (fun n => spec_l07Four.j2 n r c i k b A j p' q') R := by
      intro p' q' e
      refine Ev.succ ?_
      simp only [spec_l07Four.j2]
      rw [l00In, l00In, wrap_id (x := r - 1) (by omega) (by omega), wrap_id (x := c - 1) (by omega) (by omega), wrap_id (x := j + 1) (by omega) (by omega)]
      by_cases g1 : 0 ≤ p' ∧ p' ≤ r - 1
      · refine Ev.bnd rfl (Ev.pos (by simpa using g1) ?_)
        by_cases g2 : 0 ≤ q' ∧ q' ≤ c - 1
        · rw [if_pos ⟨g1, g2⟩] at e
          have hc := cell_in h (i := p') (k := q') ⟨g1.1, by omega⟩ ⟨g2.1, by omega⟩
          have hl2 : (l.length : Int) ≤ 24 * 24 := by rw [h.n]; exact Int.mul_le_mul h.r1 h.c1 (by omega) (by omega)
          rw [wrap_id (x := p' * c) (by omega) (by omega), wrap_id (x := p' * c + q') (by omega) (by omega)]
          refine Ev.bnd rfl (Ev.pos (by simpa using g2) (Ev.pos (by omega) ?_))
          rw [e]
          exact hn
        · rw [if_neg (fun g => g2 g.2)] at e
          refine Ev.bnd rfl (Ev.neg (by simpa using g2) ?_)
          rw [← e, List.append_nil] at hn
          exact hn
      · rw [if_neg (fun g => g1 g.1)] at e
        refine Ev.bnd rfl (Ev.neg (by simpa using g1) ?_)
        rw [← e, List.append_nil] at hn
        exact hn
    by_cases hb : b = true
    · have f1 := fm_ok p r (by omega) (by omega)
      have f2 := fm_ok q c (by omega) (by omega)
      have e1 : Int.tmod (p + r) r = fm p r := by rw [fm_emod p r (by omega) (by omega), Int.tmod_eq_emod_of_nonneg (by omega), Int.add_emod_right]
      have e2 : Int.tmod (q + c) c = fm q c := by rw [fm_emod q c (by omega) (by omega), Int.tmod_eq_emod_of_nonneg (by omega), Int.add_emod_right]
      rw [wrap_id (x := p + r) (by omega) (by omega), wrap_id (x := q + c) (by omega) (by omega), e1, e2]
      refine Ev.pos hb (Ev.neg (by omega) (Ev.neg (by omega) (last _ _ ?_)))
      rw [if_pos (by omega)]
      unfold nb
      rw [if_pos hb]
    · refine Ev.neg hb (last p q ?_)
      unfold nb
      rw [if_neg hb]
  have n1 := nb_len r c b (i - 1) k
  have n2 := nb_len r c b (i + 1) k
  have n3 := nb_len r c b i (k - 1)
  refine Ev.succ ?_
  simp only [spec_l07Four.l0]
  rw [wrap_id (x := i - 1) (by omega) (by omega)]
  refine Ev.pos (by omega) (Ev.pos (by trivial) (st1 _ 0 _ _ _ (by simp) (by omega) (by omega) (by omega) (by omega) (by omega) (by omega) (Ev.succ ?_)))
  simp only [spec_l07Four.l0]
  rw [wrap_id (x := i + 1) (by omega) (by omega)]
  refine Ev.pos (by omega) (Ev.neg (by omega) (Ev.pos (by trivial) (st1 _ 1 _ _ _ (by simp; omega) (by omega) (by omega) (by omega) (by omega) (by omega) (by omega) (Ev.succ ?_))))
  simp only [spec_l07Four.l0]
  rw [wrap_id (x := k - 1) (by omega) (by omega)]
  refine Ev.pos (by omega) (Ev.neg (by omega) (Ev.neg (by omega) (Ev.pos (by trivial) (st1 _ 2 _ _ _ (by simp; omega) (by omega) (by omega) (by omega) (by omega) (by omega) (by omega) (Ev.succ ?_)))))
  simp only [spec_l07Four.l0]
  rw [wrap_id (x := k + 1) (by omega) (by omega)]
  refine Ev.pos (by omega) (Ev.neg (by omega) (Ev.neg (by omega) (Ev.neg (by omega) (st1 _ 3 _ _ _ (by simp; omega) (by omega) (by omega) (by omega) (by omega) (by omega) (by omega) (Ev.succ ?_)))))
  simp only [spec_l07Four.l0]
  exact Ev.neg (by omega) (Ev.val (by simp))
theorem l07Excite {r c st : Int} {l : List Int} (h : FieldIn (st - 1) r c l) (hs : 3 ≤ st) (hs9 : st ≤ 9) (bar : Int) (b : Bool) : Ev (fun n => spec_l07Excite.f n r c l st bar b) (r, c, exciteOf r c l st bar b) := by
  unfold spec_l07Excite.f spec_l04New.f
  have hr0 := h.r0; have hr1 := h.r1; have hc0 := h.c0; have hc1 := h.c1; have hn := h.n
  obtain ⟨R, rfl⟩ := Int.eq_ofNat_of_zero_le (show 0 ≤ r by omega)
  obtain ⟨C, rfl⟩ := Int.eq_ofNat_of_zero_le (show 0 ≤ c by omega)
  have hm : R * C ≤ 24 * 24 := Nat.mul_le_mul (by omega) (by omega)
  have hmi : (R : Int) * (C : Int) = ((R * C : Nat) : Int) := by push_cast; rfl
  have hg : (exciteOf R C l st bar b).length = R * C := by rw [exciteOf, grid_length, Int.toNat_natCast, Int.toNat_natCast]
  rw [hmi, wrap_id (x := ((R * C : Nat) : Int)) (by omega) (by omega), Int.toNat_natCast]
  refine Ev.bnd (a := ((R : Int), (C : Int), List.replicate (R * C) (0 : Int))) (by rw [if_pos (by omega), if_pos (by omega)]) ?_
  refine Ev.congr (fun n => ?_) (Ev.grid R C (fun m => (exciteOf R C l st bar b).take m ++ List.replicate (R * C - m) 0) ((R : Int), (C : Int), exciteOf R C l st bar b) (fun n s i => spec_l07Excite.l0 n st bar b i R C l R C s) (fun n s i j => spec_l07Excite.l1 n st bar b i j R C l R C s) (fun i hi ih => ?_) (fun i j hi hj ih => ?_) (fun i hi ih => ?_) ?_)
  · simp
  · refine Ev.succ ?_
    simp only [spec_l07Excite.l0]
    exact Ev.pos (by omega) ih
  · refine Ev.succ ?_
    simp only [spec_l07Excite.l1]
    have hlt := grid_in hi hj
    have hi' : 0 ≤ (i : Int) ∧ (i : Int) < (R : Int) := ⟨by omega, by omega⟩
    have hj' : 0 ≤ (j : Int) ∧ (j : Int) < (C : Int) := ⟨by omega, by omega⟩
    have hc := cell_in h hi' hj'
    have hco := cell_ok h hi' hj'
    have hx : (i : Int) * (C : Int) + (j : Int) = ((i * C + j : Nat) : Int) := by push_cast; rfl
    have hl : ((exciteOf R C l st bar b).take (i * C + j) ++ List.replicate (R * C - (i * C + j)) (0 : Int)).length = R * C := by rw [List.length_append, List.length_take, List.length_replicate, hg]; omega
    have hv : exciteAt R C l st bar b i j = (exciteOf R C l st bar b)[i * C + j]'(by rw [hg]; exact hlt) := (grid_get R C (fun i k => exciteAt R C l st bar b (i : Int) (k : Int)) i j hi hj).symm
    have hs' := take_set_rep' (exciteOf R C l st bar b) (i * C + j) (R * C) (by rw [hg]; exact hlt) hg
    rw [← hv] at hs'
    rw [wrap_id (x := (i : Int) * (C : Int)) (by omega) (by omega), wrap_id (x := (i : Int) * (C : Int) + (j : Int)) (by omega) (by omega), wrap_id (x := (j : Int) + 1) (by omega) (by omega)]
    have e1 : rd l ((i : Int) * (C : Int) + (j : Int)) = cell C l i j := rfl
    rw [e1]
    refine Ev.pos (by omega) (Ev.pos hc.2.2.1 (Ev.pos hc.2.2.2 ?_))
    by_cases g : cell C l i j > 0
    · have hv1 : exciteAt R C l st bar b i j = Int.tmod (cell C l i j + 1) st := by unfold exciteAt; rw [if_pos g]
      rw [hv1] at hs'
      rw [wrap_id (x := cell C l i j + 1) (by omega) (by omega)]
      refine Ev.pos g (Ev.neg (by omega) (Ev.pos (by rw [hl, hx]; omega) ?_))
      rw [hx, Int.toNat_natCast, hs']
      exact ih
    · refine Ev.neg g (Ev.bind (four h b hi' hj') ?_)
      have hin : ∀ x ∈ nb R C b ((i : Int) - 1) j ++ nb R C b ((i : Int) + 1) j ++ nb R C b i ((j : Int) - 1) ++ nb R C b i ((j : Int) + 1), 0 ≤ x ∧ x < l.length := by
        intro x hx
        simp only [List.mem_append] at hx
        rcases hx with ((hx | hx) | hx) | hx <;> exact nb_in h b _ _ x hx
      have hon : ones l (nb R C b ((i : Int) - 1) j ++ nb R C b ((i : Int) + 1) j ++ nb R C b i ((j : Int) - 1) ++ nb R C b i ((j : Int) + 1)) = hotOf R C l b i j := by
        rw [ones_append, ones_append, ones_append, ones_nb, ones_nb, ones_nb, ones_nb]; rfl
      have hln : (nb R C b ((i : Int) - 1) j ++ nb R C b ((i : Int) + 1) j ++ nb R C b i ((j : Int) - 1) ++ nb R C b i ((j : Int) + 1)).length ≤ 4 := by
        have n1 := nb_len R C b ((i : Int) - 1) j
        have n2 := nb_len R C b ((i : Int) + 1) j
        have n3 := nb_len R C b i ((j : Int) - 1)
        have n4 := nb_len R C b i ((j : Int) + 1)
        simp only [List.length_append]
        omega
      generalize hL : nb R C b ((i : Int) - 1) j ++ nb R C b ((i : Int) + 1) j ++ nb R C b i ((j : Int) - 1) ++ nb R C b i ((j : Int) + 1) = L at hin hon hln
      generalize hT : (exciteOf R C l st bar b).take (i * C + j) ++ List.replicate (R * C - (i * C + j)) (0 : Int) = T at hl hs' ⊢
      refine Ev.upto L.length (fun _ => True) (fun m => ones l (L.take m)) _ (fun n s m => spec_l07Excite.l2 n st bar b i j ((i : Int) * (C : Int) + (j : Int)) L s L.length m R C l R C T) (fun m hm' _ ihm => ?_) (fun _ => ?_) trivial
      · refine Ev.succ ?_
        simp only [spec_l07Excite.l2]
        have hb := hin L[m] (List.getElem_mem hm')
        have ho := ones_ok l (L.take m)
        rw [List.length_take] at ho
        rw [rd_lt L m hm', wrap_id (x := (m : Int) + 1) (by omega) (by omega)]
        have e2 : ones l (L.take (m + 1)) = ones l (L.take m) + one1 (rd l L[m]) := by
          rw [List.take_succ_eq_append_getElem hm', ones_append]; simp [ones]
        have := ihm trivial
        rw [e2] at this
        refine Ev.pos (by omega) (Ev.pos (by omega) (Ev.pos (by omega) (Ev.pos hb.1 (Ev.pos hb.2 ?_))))
        by_cases g1 : rd l L[m] = 1
        · rw [wrap_id (x := ones l (L.take m) + 1) (by omega) (by omega)]
          rw [show one1 (rd l L[m]) = 1 by unfold one1; rw [if_pos g1]] at this
          exact Ev.pos g1 this
        · rw [show one1 (rd l L[m]) = 0 by unfold one1; rw [if_neg g1], Int.add_zero] at this
          exact Ev.neg g1 this
      · refine Ev.succ ?_
        simp only [spec_l07Excite.l2]
        rw [wrap_id (x := (j : Int) + 1) (by omega) (by omega), List.take_length, hon]
        refine Ev.neg (by omega) ?_
        by_cases g2 : hotOf R C l b i j ≥ bar
        · have hv1 : exciteAt R C l st bar b i j = 1 := by unfold exciteAt; rw [if_neg g, if_pos g2]
          rw [hv1] at hs'
          refine Ev.pos g2 (Ev.pos hc.2.2.1 (Ev.pos (by rw [hl, hx]; omega) ?_))
          rw [hx, Int.toNat_natCast, hs']
          exact ih
        · have hv0 : exciteAt R C l st bar b i j = 0 := by unfold exciteAt; rw [if_neg g, if_neg g2]
          rw [hv0] at hs'
          refine Ev.neg g2 ?_
          have hid : T.set (i * C + j) 0 = T := by
            rw [← hT, List.set_append_right _ _ (by rw [List.length_take]; omega)]
            congr 1
            rw [List.length_take, hg, Nat.min_eq_left (by omega), Nat.sub_self, show R * C - (i * C + j) = (R * C - (i * C + j) - 1) + 1 by omega, List.replicate_succ, List.set_cons_zero]
          rw [hid] at hs'
          rw [hs']
          exact ih
  · refine Ev.succ ?_
    simp only [spec_l07Excite.l1]
    rw [wrap_id (x := (i : Int) + 1) (by omega) (by omega)]
    exact Ev.neg (by omega) ih
  · refine Ev.succ ?_
    simp only [spec_l07Excite.l0]
    refine Ev.neg (by omega) (Ev.val ?_)
    rw [Nat.sub_self, List.replicate_zero, List.append_nil, List.take_of_length_le (by rw [hg]; exact Nat.le_refl _)]

/-- Waves behind n steps. -/
def exciteN (r c st bar : Int) (b : Bool) : Nat → List Int → List Int
  | 0, l => l
  | n + 1, l => exciteN r c st bar b n (exciteOf r c l st bar b)
theorem exciteN_in {r c st : Int} (bar : Int) (b : Bool) (hs : 3 ≤ st) : ∀ (n : Nat) (l : List Int), FieldIn (st - 1) r c l → FieldIn (st - 1) r c (exciteN r c st bar b n l) := by
  intro n
  induction n with
  | zero => exact fun l h => h
  | succ n ih => exact fun l h => ih _ (exciteOf_in h hs bar b)
/-- What ExciteRun answers. -/
def exciteRun (r c : Int) (l : List Int) (st bar : Int) (b : Bool) (steps : Int) : Int × Int × List Int × Bool := if (waveField r c l st && decide (1 ≤ bar ∧ bar ≤ 4) && decide (0 ≤ steps ∧ steps ≤ 512)) = true then (r, c, exciteN r c st bar b steps.toNat l, true) else (0, 0, [], false)
theorem wave_len {r c st : Int} {l : List Int} (h : FieldIn (st - 1) r c l) : l.length ≤ 576 := by
  have h1 : r * c ≤ 24 * 24 := Int.mul_le_mul h.r1 h.c1 (by have := h.c0; omega) (by omega)
  have := h.n
  omega
theorem exciteRunSpec (r c : Int) (l : List Int) (st bar : Int) (b : Bool) (steps : Int) (hl : l.length ≤ 17592186044415) : Ev (fun k => spec_ExciteRun.f k r c l st bar b steps) (exciteRun r c l st bar b steps) := by
  unfold spec_ExciteRun.f exciteRun
  have no : Ev (fun k => spec_ExciteRun.j0 k st bar b steps true r c l) (0, 0, [], false) := by
    refine Ev.succ ?_
    simp only [spec_ExciteRun.j0]
    exact Ev.pos (by trivial) (Ev.now _)
  refine Ev.bind (waveSpec r c l st (by omega)) ?_
  by_cases g : waveField r c l st = true
  · rw [g, Bool.true_and]
    obtain ⟨hf, hs, hs9⟩ := FieldIn.wave g
    refine Ev.pos (by trivial) (Ev.bnd (l00In bar 1 4) ?_)
    by_cases hb : 1 ≤ bar ∧ bar ≤ 4
    · rw [decide_eq_true hb, Bool.true_and]
      refine Ev.pos (by trivial) (Ev.bnd (l00In steps 0 512) ?_)
      by_cases hn : 0 ≤ steps ∧ steps ≤ 512
      · rw [decide_eq_true hn, if_pos rfl]
        refine Ev.succ ?_
        simp only [spec_ExciteRun.j0]
        refine Ev.neg (by simp) (Ev.bnd (a := (r, c, l)) (by unfold spec_l04Own.f; show (if _ then _ else _) = _; rw [if_pos (by simp; omega)]; simp) ?_)
        have main : ∀ (n : Nat) (l : List Int), n ≤ 512 → FieldIn (st - 1) r c l → Ev (fun k => spec_ExciteRun.l0 k st bar b (n : Int) r c l) (r, c, exciteN r c st bar b n l, true) := by
          intro n
          induction n with
          | zero =>
            intro l _ h
            refine Ev.succ ?_
            simp only [spec_ExciteRun.l0]
            exact Ev.neg (by simp) (Ev.now _)
          | succ n ih =>
            intro l hn h
            refine Ev.succ ?_
            simp only [spec_ExciteRun.l0]
            rw [wrap_id (x := ((n + 1 : Nat) : Int) - 1) (by omega) (by omega), show ((n + 1 : Nat) : Int) - 1 = (n : Int) by omega]
            exact Ev.pos (by omega) (Ev.bind (l07Excite h hs hs9 bar b) (ih _ (by omega) (exciteOf_in h hs bar b)))
        have := main steps.toNat l (by omega) hf
        rw [Int.toNat_of_nonneg hn.1] at this
        exact this
      · rw [decide_eq_false hn, if_neg (by simp)]
        exact no
    · rw [decide_eq_false hb, Bool.false_and, if_neg (by simp)]
      exact Ev.neg (by simp) no
  · rw [Bool.eq_false_iff.mpr g, Bool.false_and, Bool.false_and, if_neg (by simp)]
    exact Ev.neg (by simp) no
theorem exciteRunImpl (r c : Int) (l : List Int) (st bar : Int) (b : Bool) (steps : Int) (hl : l.length ≤ 17592186044415) : Ev (fun k => impl_ExciteRun.f k r c l st bar b steps) (exciteRun r c l st bar b steps) := by
  unfold impl_ExciteRun.f exciteRun
  have no : Ev (fun k => impl_ExciteRun.j0 k st bar b steps true r c l) (0, 0, [], false) := by
    refine Ev.succ ?_
    simp only [impl_ExciteRun.j0]
    exact Ev.pos (by trivial) (Ev.now _)
  refine Ev.bind (waveImpl r c l st (by omega)) ?_
  by_cases g : waveField r c l st = true
  · rw [g, Bool.true_and]
    obtain ⟨hf, hs, hs9⟩ := FieldIn.wave g
    refine Ev.pos (by trivial) (Ev.bnd (within bar 1 4) ?_)
    by_cases hb : 1 ≤ bar ∧ bar ≤ 4
    · rw [decide_eq_true hb, Bool.true_and]
      refine Ev.pos (by trivial) (Ev.bnd (within steps 0 512) ?_)
      by_cases hn : 0 ≤ steps ∧ steps ≤ 512
      · rw [decide_eq_true hn, if_pos rfl]
        refine Ev.succ ?_
        simp only [impl_ExciteRun.j0]
        refine Ev.neg (by simp) (Ev.bnd (a := (r, c, l)) (by unfold impl_copyField.f slices_Clone_int64_int64.f; simp only [Option.bind_some]; rw [if_pos (by simp; omega)]; simp) ?_)
        have main : ∀ (n : Nat) (l : List Int) (i : Int), 0 ≤ i → i + n = steps → FieldIn (st - 1) r c l → Ev (fun k => impl_ExciteRun.l0 k st bar b steps i r c l) (r, c, exciteN r c st bar b n l, true) := by
          intro n
          induction n with
          | zero =>
            intro l i h0 hi h
            refine Ev.succ ?_
            simp only [impl_ExciteRun.l0]
            exact Ev.neg (by omega) (Ev.now _)
          | succ n ih =>
            intro l i h0 hi h
            refine Ev.succ ?_
            simp only [impl_ExciteRun.l0]
            rw [wrap_id (x := i + 1) (by omega) (by omega)]
            exact Ev.pos (by omega) (Ev.bind (exciteImpl h hs hs9 bar b) (ih _ _ (by omega) (by omega) (exciteOf_in h hs bar b)))
        exact main steps.toNat l 0 (by omega) (by omega) hf
      · rw [decide_eq_false hn, if_neg (by simp)]
        exact no
    · rw [decide_eq_false hb, Bool.false_and, if_neg (by simp)]
      exact Ev.neg (by simp) no
  · rw [Bool.eq_false_iff.mpr g, Bool.false_and, Bool.false_and, if_neg (by simp)]
    exact Ev.neg (by simp) no
theorem exciteRun_len (r c : Int) (l : List Int) (st bar : Int) (b : Bool) (steps : Int) : (exciteRun r c l st bar b steps).2.2.1.length ≤ 576 := by
  unfold exciteRun
  split
  · rename_i g
    rw [Bool.and_eq_true, Bool.and_eq_true] at g
    obtain ⟨hf, hs, hs9⟩ := FieldIn.wave g.1.1
    exact wave_len (exciteN_in bar b hs _ _ hf)
  · simp
theorem FnExactExciteRun : laws_FnExactExciteRun.Pure := by
  intro r c l st bar b steps _ _ hz _ _ _
  have hl : l.length ≤ 17592186044415 := by omega
  have hm := exciteRun_len r c l st bar b steps
  refine Ev.rounds ?_
  unfold laws_FnExactExciteRun.f
  refine Ev.bnd (szField r c l _ (by omega) (by omega) (by omega)) ?_
  by_cases g : (1048576 : Int) - (l.length : Int) < 0
  · rw [if_pos g]
    exact Ev.pos (by omega) (Ev.now _)
  · rw [if_neg g]
    refine Ev.neg g (Ev.bind (toField r c l (by omega)) (Ev.bind (exciteRunSpec r c l st bar b steps (by omega)) (Ev.bind (toField r c l (by omega)) (Ev.bind (exciteRunImpl r c l st bar b steps (by omega)) (Ev.bind (eqField _ _ _ _ _ _ (by omega)) (Ev.pos (by simp) (Ev.succ ?_)))))))
    simp only [laws_FnExactExciteRun.j0]
    refine Ev.neg (by simp) (Ev.bind (toField r c l (by omega)) (Ev.bind (eqField _ _ _ _ _ _ (by omega)) (Ev.pos (by simp) (Ev.bind (markField _ _ _ 1 (by omega) (by omega) (by omega)) (Ev.neg (by show ¬ (1 + (l.length : Int)) < 0; omega) (Ev.bind (eqField _ _ _ _ _ _ (by omega)) (Ev.pos (by simp) (Ev.succ ?_))))))))
    simp only [laws_FnExactExciteRun.j1]
    refine Ev.neg (by simp) (Ev.bind (markField _ _ _ 1 (by omega) (by omega) (by omega)) (Ev.bind (heldField _ _ _ 1 (by omega) (by omega) (by omega)) (Ev.neg (by omega) (Ev.pos (by trivial) (Ev.bind (toField r c l (by omega)) (Ev.bind (exciteRunImpl r c l st bar b steps (by omega)) (Ev.bind (eqField _ _ _ _ _ _ (by omega)) (Ev.pos (by simp) (Ev.succ ?_)))))))))
    simp only [laws_FnExactExciteRun.j2]
    exact Ev.neg (by simp) (Ev.bind (heldField _ _ _ 1 (by omega) (by omega) (by omega)) (Ev.neg (by omega) (Ev.pos (by trivial) (Ev.now _))))

end Go.Proofs.Ytbeinhdoggfgkaa.Pure

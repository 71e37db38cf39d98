/- Gases: what collides and streams comes back; counts and ways are kept. -/
import Derived.Test.YtpfdgikohjifpaaPFnGasesx0
import Derived.Test.YtpfdgikohjifpaaPFnGasesx1
import Derived.Test.YtpfdgikohjifpaaPFnGasesx2
import Derived.Test.YtpfdgikohjifpaaPFnGasesx3
import Derived.Test.YtpfdgikohjifpaaPFnGasesx4
import Derived.Test.YtpfdgikohjifpaaVFnGasesLib
namespace Go.Proofs.Ytpfdgikohjifpaa.Pure
open Go.RowKit Go.Proofs.Ytpfdgikohjifpaa.PFnGases Go.Proofs.YtpfdgikohjifpaaW.PrintWords Go.Proofs.YtpfdgikohjifpaaW.PrintLast Go.Proofs.Ytpfdgikohjifpaa.L
set_option linter.unusedVariables false
set_option linter.unusedSimpArgs false

theorem within (a b c : Int) : impl_within.f a b c = some (decide (b ≤ a ∧ a ≤ c)) := by
  unfold impl_within.f
  by_cases h : a ≥ b
  · rw [if_pos h]; simp; omega
  · rw [if_neg h]; simp; omega

theorem areWithin (l : List Int) (a b : Int) (hl : l.length ≤ 35184372088832) : Ev (fun k => impl_areWithin.f k l a b) (allIn l a b) := by
  unfold impl_areWithin.f
  refine Ev.upto l.length (fun i => ∀ j, (hj : j < l.length) → j < i → a ≤ l[j] ∧ l[j] ≤ b) (fun _ => ()) _ (fun k _ i => impl_areWithin.l0 k a b l l.length i) (fun i hi hp ih => ?_) (fun hp => ?_) (fun j hj h => by omega)
  · refine Ev.succ ?_
    simp only [impl_areWithin.l0]
    refine Ev.pos (by omega) (Ev.pos (by omega) (Ev.pos (by omega) ?_))
    rw [rd_lt l i (by omega), wrap_id (by omega) (by omega), within]
    by_cases c : a ≤ l[i] ∧ l[i] ≤ b
    · exact Ev.bnd rfl (Ev.pos (by simpa using c) (ih (upTo_succ (p := fun x => a ≤ x ∧ x ≤ b) hi hp c)))
    · exact Ev.bnd rfl (Ev.neg (by simpa using c) (Ev.val (by rw [allIn_false i (by omega) c])))
  · refine Ev.succ ?_
    simp only [impl_areWithin.l0]
    exact Ev.neg (by omega) (Ev.val (by rw [allIn_true (fun j hj' => hp j hj' (by omega))]))

theorem areMany (l : List Int) (a b c d : Int) (hl : l.length ≤ 35184372088832) : Ev (fun k => impl_areMany.f k l a b c d) (decide (a ≤ l.length ∧ l.length ≤ b) && allIn l c d) := by
  unfold impl_areMany.f
  refine Ev.bnd (within _ _ _) ?_
  by_cases h : a ≤ l.length ∧ l.length ≤ b
  · refine Ev.pos (by simpa using h) (Ev.cast (Ev.bind (areWithin l c d hl) (Ev.now _)) (by simp [h]))
  · exact Ev.neg (by simpa using h) (Ev.val (by simp [h]))

/-- The greatest cell of a gas. -/
def topOf (w : Int) : Int := if w = 4 then 15 else 63
theorem top_spec {w : Int} (h : w = 4 ∨ w = 6) : wrap64 ((shl .i64 1 (IntKind.u64.wrap w)) - 1) = topOf w := by rcases h with rfl | rfl <;> decide +kernel
theorem top_impl {w : Int} (h : w = 4 ∨ w = 6) : wrap64 ((shl .i64 1 w) - 1) = topOf w := by rcases h with rfl | rfl <;> decide +kernel
/-- A gas is valid. -/
def validGas (w r c : Int) (l : List Int) (b : List Bool) : Bool := decide (w = 4 ∨ w = 6) && ((decide (1 ≤ r ∧ r ≤ 16) && decide (1 ≤ c ∧ c ≤ 16)) && (decide ((l.length : Int) = r * c) && (decide ((b.length : Int) = l.length) && allIn l 0 (topOf w))))
/-- The same, as facts. -/
structure GasOk (w r c : Int) (l : List Int) (b : List Bool) : Prop where
  w0 : w = 4 ∨ w = 6
  r0 : 1 ≤ r
  r1 : r ≤ 16
  c0 : 1 ≤ c
  c1 : c ≤ 16
  n : (l.length : Int) = r * c
  nb : b.length = l.length
  all : ∀ x ∈ l, 0 ≤ x ∧ x ≤ topOf w
theorem GasOk.of {w r c : Int} {l : List Int} {b : List Bool} (h : validGas w r c l b = true) : GasOk w r c l b := by
  unfold validGas at h
  simp only [Bool.and_eq_true, decide_eq_true_eq] at h
  exact ⟨h.1, h.2.1.1.1, h.2.1.1.2, h.2.1.2.1, h.2.1.2.2, h.2.2.1, by have := h.2.2.2.1; omega, allIn_iff.1 h.2.2.2.2⟩
theorem GasOk.len {w r c : Int} {l : List Int} {b : List Bool} (h : GasOk w r c l b) : l.length ≤ 256 := by
  have h1 : r * c ≤ 16 * 16 := Int.mul_le_mul h.r1 h.c1 (by have := h.c0; omega) (by omega)
  have := h.n
  omega
theorem gasImpl (w r c : Int) (l : List Int) (b : List Bool) (hl : l.length ≤ 35184372088832) (hb : b.length ≤ 281474976710656) : Ev (fun k => impl_ValidGas.f k w r c l b) (validGas w r c l b) := by
  have body : (w = 4 ∨ w = 6) → Ev (fun k => (impl_areSides.f r c).bind fun t => (if t = true then (if 0 ≤ w then ((impl_areMany.f k l (wrap64 (r * c)) (wrap64 (r * c)) 0 (wrap64 ((shl .i64 1 w) - 1))).bind fun t203 => (if t203 = true then (some ((b.length : Int) == (wrap64 (r * c)))) else (some false))) else (none)) else (some false))) (validGas w r c l b) := fun hw => by
    unfold validGas
    rw [decide_eq_true hw, Bool.true_and]
    refine Ev.andB (a := (decide (1 ≤ r ∧ r ≤ 16) && decide (1 ≤ c ∧ c ≤ 16))) ?_ (fun hs => ?_)
    · unfold impl_areSides.f
      rw [within, within]
      simp only [Option.bind_some]
      by_cases h : 1 ≤ r ∧ r ≤ 16
      · rw [decide_eq_true h, if_pos rfl, Bool.true_and]
      · rw [decide_eq_false h, if_neg (by simp), Bool.false_and]
    · rw [Bool.and_eq_true, decide_eq_true_eq, decide_eq_true_eq] at hs
      have h1 : r * c ≤ 16 * 16 := Int.mul_le_mul hs.1.2 hs.2.2 (by omega) (by omega)
      have h2 : 0 ≤ r * c := Int.mul_nonneg (by omega) (by omega)
      rw [wrap_id (x := r * c) (by omega) (by omega), top_impl hw]
      refine Ev.pos (by omega) ?_
      refine Ev.cast (Ev.and (areMany l _ _ 0 (topOf w) hl) (fun _ => Ev.now _)) ?_
      by_cases hn : (l.length : Int) = r * c
      · rw [decide_eq_true hn, decide_eq_true (show r * c ≤ (l.length : Int) ∧ (l.length : Int) ≤ r * c by omega), Bool.true_and, Bool.true_and, Bool.and_comm]
        congr 1
        rw [hn]; rfl
      · rw [decide_eq_false hn, decide_eq_false (show ¬ (r * c ≤ (l.length : Int) ∧ (l.length : Int) ≤ r * c) by omega), Bool.false_and, Bool.false_and, Bool.false_and]
  unfold impl_ValidGas.f
  by_cases h4 : w = 4
  · exact Ev.pos h4 (body (.inl h4))
  · refine Ev.neg h4 ?_
    by_cases h6 : w = 6
    · exact Ev.pos h6 (body (.inr h6))
    · refine Ev.neg h6 (Ev.val ?_)
      unfold validGas
      rw [decide_eq_false (by omega), Bool.false_and]

theorem rdOf_lt {α : Type} (d : α) (l : List α) (i : Nat) (h : i < l.length) : rdOf d l (i : Int) = l[i] := by
  unfold rdOf; rw [Int.toNat_natCast, List.getD_eq_getElem?_getD, List.getElem?_eq_getElem h]; rfl
theorem take_set_repB (l : List Bool) (i n : Nat) (h : i < l.length) (hn : l.length = n) : (l.take i ++ List.replicate (n - i) false).set i l[i] = l.take (i + 1) ++ List.replicate (n - (i + 1)) false := by
  subst hn
  have hl : (l.take i).length = i := by rw [List.length_take]; omega
  rw [List.set_append_right _ _ (by omega), hl, Nat.sub_self, show l.length - i = (l.length - (i + 1)) + 1 by omega, List.replicate_succ, List.set_cons_zero, List.take_succ_eq_append_getElem h, List.append_assoc]; rfl
/-- The marks of a row of bools. -/
def bmarks (a : Int) (n : Nat) : List Bool := (List.range n).map fun (i : Nat) => Int.tmod (a + (i : Int)) 3 == 0
theorem bmarks_length (a : Int) (n : Nat) : (bmarks a n).length = n := by simp [bmarks]
theorem bmarks_succ (a : Int) (n : Nat) : bmarks a (n + 1) = bmarks a n ++ [Int.tmod (a + n) 3 == 0] := by simp [bmarks, List.range_succ]
theorem bmarks_get (a : Int) (n i : Nat) (h : i < n) : (bmarks a n)[i]'(by rw [bmarks_length]; exact h) = (Int.tmod (a + i) 3 == 0) := by simp [bmarks]
theorem bmarks_step (a : Int) (l : List Bool) (i : Nat) (h : i < l.length) : (bmarks a i ++ l.drop i).set i (Int.tmod (a + i) 3 == 0) = bmarks a (i + 1) ++ l.drop (i + 1) := by
  rw [List.set_append_right _ _ (by rw [bmarks_length]; exact Nat.le_refl _), bmarks_length, Nat.sub_self, List.drop_eq_getElem_cons h, List.set_cons_zero, bmarks_succ, List.append_assoc]; rfl
/-- The place on a ring, from 0 on. -/
def fm (x : Int) (n : Int) : Int := Int.tmod (wrap64 ((Int.tmod x n) + n)) n
theorem fm_ok (x n : Int) (h0 : 0 < n) (hn : n ≤ 1000000000000) : 0 ≤ fm x n ∧ fm x n < n := by
  unfold fm
  have h1 := Int.tmod_lt_of_pos x h0
  have h2 : -n < Int.tmod x n := by
    have := Int.tmod_lt_of_pos (-x) h0
    rw [Int.neg_tmod] at this
    omega
  rw [wrap_id (x := Int.tmod x n + n) (by omega) (by omega)]
  exact ⟨Int.tmod_nonneg _ (by omega), Int.tmod_lt_of_pos _ h0⟩

theorem floorMod (a b : Int) (h : b ≠ 0) : impl_floorMod.f a b = some (fm a b) := by unfold impl_floorMod.f; rw [if_neg h]; rfl

/-- The way of a bit, as the reference tells it. -/
def wayS (w k : Int) : Int × Int := (impl_Gas_goes.f w 1 1 [] [] k).getD (0, 0)
theorem way4 : ∀ k : Fin 4, impl_Gas_goes.f 4 1 1 [] [] (k.val : Int) = some (wayS 4 (k.val : Int)) ∧ impl_Gas_goes.f 4 1 1 [] [] (k.val : Int) = some (wayS 4 (k.val : Int)) ∧ -1 ≤ (wayS 4 (k.val : Int)).1 ∧ (wayS 4 (k.val : Int)).1 ≤ 1 ∧ -1 ≤ (wayS 4 (k.val : Int)).2 ∧ (wayS 4 (k.val : Int)).2 ≤ 1 := by decide +kernel
theorem way6 : ∀ k : Fin 6, impl_Gas_goes.f 6 1 1 [] [] (k.val : Int) = some (wayS 6 (k.val : Int)) ∧ impl_Gas_goes.f 6 1 1 [] [] (k.val : Int) = some (wayS 6 (k.val : Int)) ∧ -1 ≤ (wayS 6 (k.val : Int)).1 ∧ (wayS 6 (k.val : Int)).1 ≤ 1 ∧ -1 ≤ (wayS 6 (k.val : Int)).2 ∧ (wayS 6 (k.val : Int)).2 ≤ 1 := by decide +kernel
theorem wayW {w : Int} (hw : w = 4 ∨ w = 6) (k : Nat) (hk : (k : Int) < w) (r c : Int) (l : List Int) (b : List Bool) : impl_Gas_goes.f w 1 1 [] [] (k : Int) = some (wayS w (k : Int)) ∧ impl_Gas_goes.f w r c l b (k : Int) = some (wayS w (k : Int)) ∧ -1 ≤ (wayS w (k : Int)).1 ∧ (wayS w (k : Int)).1 ≤ 1 ∧ -1 ≤ (wayS w (k : Int)).2 ∧ (wayS w (k : Int)).2 ≤ 1 := by
  rcases hw with rfl | rfl
  · exact way4 ⟨k, by omega⟩
  · exact way6 ⟨k, by omega⟩
theorem u64_small (k : Nat) (hk : k < 6) : IntKind.u64.wrap (k : Int) = (k : Int) := by
  have : ∀ k : Fin 6, IntKind.u64.wrap (k.val : Int) = (k.val : Int) := by decide +kernel
  exact this ⟨k, hk⟩
theorem fm_near : ∀ n : Fin 17, ∀ a : Fin 19, (n.val : Int) ≠ 0 → (a.val : Int) ≤ n.val + 1 → Int.tmod (wrap64 (((a.val : Int) - 1) + n.val)) n.val = fm ((a.val : Int) - 1) n.val := by decide +kernel
theorem fm_small {x n : Int} (h0 : 1 ≤ n) (h1 : n ≤ 16) (g0 : -1 ≤ x) (g1 : x ≤ n) : Int.tmod (wrap64 (x + n)) n = fm x n := by
  obtain ⟨m, rfl⟩ := Int.eq_ofNat_of_zero_le (show 0 ≤ n by omega)
  obtain ⟨a, ha⟩ := Int.eq_ofNat_of_zero_le (show 0 ≤ x + 1 by omega)
  have := fm_near ⟨m, by omega⟩ ⟨a, by omega⟩ (by show (m : Int) ≠ 0; omega) (by show (a : Int) ≤ m + 1; omega)
  have e : x = (a : Int) - 1 := by omega
  rw [e]
  exact this
/-- Where a bit of a cell goes. -/
def tgt (w r c : Int) (i j : Nat) (k : Nat) : Int := fm ((i : Int) + (wayS w k).1) r * c + fm ((j : Int) + (wayS w k).2) c
theorem tgt_in (w : Int) {r c : Int} (i j k : Nat) (r0 : 1 ≤ r) (r1 : r ≤ 16) (c0 : 1 ≤ c) (c1 : c ≤ 16) : 0 ≤ tgt w r c i j k ∧ tgt w r c i j k < r * c ∧ fm ((i : Int) + (wayS w k).1) r * c ≤ 256 ∧ 0 ≤ fm ((i : Int) + (wayS w k).1) r * c := by
  have h1 := fm_ok ((i : Int) + (wayS w k).1) r (by omega) (by omega)
  have h2 := fm_ok ((j : Int) + (wayS w k).2) c (by omega) (by omega)
  have h3 : 0 ≤ fm ((i : Int) + (wayS w k).1) r * c := Int.mul_nonneg h1.1 (by omega)
  have h4 : (fm ((i : Int) + (wayS w k).1) r + 1) * c ≤ r * c := Int.mul_le_mul_of_nonneg_right (by omega) (by omega)
  have h5 : r * c ≤ 16 * 16 := Int.mul_le_mul r1 c1 (by omega) (by omega)
  rw [Int.add_mul] at h4
  unfold tgt
  omega
/-- One bit of a cell is sent. -/
def sput (w r c : Int) (i j : Nat) (x : Int) (k : Nat) (L : List Int) : List Int := if Go.bits .and .i64 (shr .i64 x (k : Int)) 1 = 1 then L.set (tgt w r c i j k).toNat (Go.bits .or .i64 (rd L (tgt w r c i j k)) (shl .i64 1 (k : Int))) else L
/-- The first k bits of a cell are sent. -/
def scell (w r c : Int) (i j : Nat) (x : Int) : Nat → List Int → List Int
  | 0, L => L
  | k + 1, L => sput w r c i j x k (scell w r c i j x k L)
/-- The first n cells are sent. -/
def sgrid (w r c : Int) (l : List Int) : Nat → List Int
  | 0 => List.replicate l.length 0
  | n + 1 => scell w r c (n / c.toNat) (n % c.toNat) (rd l (n : Int)) w.toNat (sgrid w r c l n)
theorem sput_length (w r c : Int) (i j : Nat) (x : Int) (k : Nat) (L : List Int) : (sput w r c i j x k L).length = L.length := by unfold sput; split <;> simp
theorem scell_length (w r c : Int) (i j : Nat) (x : Int) (k : Nat) (L : List Int) : (scell w r c i j x k L).length = L.length := by
  induction k with
  | zero => rfl
  | succ k ih => simp only [scell]; rw [sput_length, ih]
theorem sgrid_length (w r c : Int) (l : List Int) (n : Nat) : (sgrid w r c l n).length = l.length := by
  induction n with
  | zero => simp [sgrid]
  | succ n ih => simp only [sgrid]; rw [scell_length, ih]
/-- The cells behind streaming. -/
def streamL (w r c : Int) (l : List Int) : List Int := sgrid w r c l l.length
theorem streamL_length (w r c : Int) (l : List Int) : (streamL w r c l).length = l.length := sgrid_length _ _ _ _ _
theorem or4 : ∀ x : Fin 16, ∀ k : Fin 4, 0 ≤ Go.bits .or .i64 (x.val : Int) (shl .i64 1 (k.val : Int)) ∧ Go.bits .or .i64 (x.val : Int) (shl .i64 1 (k.val : Int)) ≤ 15 := by decide +kernel
theorem or6 : ∀ x : Fin 64, ∀ k : Fin 6, 0 ≤ Go.bits .or .i64 (x.val : Int) (shl .i64 1 (k.val : Int)) ∧ Go.bits .or .i64 (x.val : Int) (shl .i64 1 (k.val : Int)) ≤ 63 := by decide +kernel
theorem orW {w : Int} (hw : w = 4 ∨ w = 6) {x : Int} (h0 : 0 ≤ x) (h1 : x ≤ topOf w) (k : Nat) (hk : (k : Int) < w) : 0 ≤ Go.bits .or .i64 x (shl .i64 1 (k : Int)) ∧ Go.bits .or .i64 x (shl .i64 1 (k : Int)) ≤ topOf w := by
  obtain ⟨n, rfl⟩ := Int.eq_ofNat_of_zero_le h0
  rcases hw with rfl | rfl
  · exact or4 ⟨n, by have : topOf 4 = 15 := rfl; omega⟩ ⟨k, by omega⟩
  · exact or6 ⟨n, by have : topOf 6 = 63 := rfl; omega⟩ ⟨k, by omega⟩
theorem scell_in {w r c : Int} (hw : w = 4 ∨ w = 6) (r0 : 1 ≤ r) (r1 : r ≤ 16) (c0 : 1 ≤ c) (c1 : c ≤ 16) (i j : Nat) (x : Int) (L : List Int) (hL : (L.length : Int) = r * c) (h : ∀ y ∈ L, 0 ≤ y ∧ y ≤ topOf w) (k : Nat) (hk : (k : Int) ≤ w) : ∀ y ∈ scell w r c i j x k L, 0 ≤ y ∧ y ≤ topOf w := by
  induction k with
  | zero => exact h
  | succ k ih =>
    have ih' := ih (by omega)
    simp only [scell]
    unfold sput
    split
    · intro y hy
      have hl := scell_length w r c i j x k L
      have ht := tgt_in w i j k r0 r1 c0 c1
      rcases List.mem_or_eq_of_mem_set hy with h' | rfl
      · exact ih' y h'
      · have hm := ih' _ (rd_mem (scell w r c i j x k L) (tgt w r c i j k) ht.1 (by rw [hl]; omega))
        exact orW hw hm.1 hm.2 k (by omega)
    · exact ih'
theorem streamL_ok {w r c : Int} {l : List Int} {b : List Bool} (h : GasOk w r c l b) : GasOk w r c (streamL w r c l) b := by
  have hl := streamL_length w r c l
  refine ⟨h.w0, h.r0, h.r1, h.c0, h.c1, by rw [hl]; exact h.n, by rw [hl]; exact h.nb, ?_⟩
  unfold streamL
  generalize l.length = m
  induction m with
  | zero => intro x hx; simp only [sgrid, List.mem_replicate] at hx; rw [hx.2]; have : topOf w = 15 ∨ topOf w = 63 := by unfold topOf; split <;> simp
            omega
  | succ m ih => simp only [sgrid]; exact scell_in h.w0 h.r0 h.r1 h.c0 h.c1 _ _ _ _ (by rw [sgrid_length]; exact h.n) ih _ (by rcases h.w0 with rfl | rfl <;> decide)
theorem streamCellImpl {w r c : Int} {l : List Int} {b : List Bool} (h : GasOk w r c l b) {n : Nat} (hn : n < l.length) (L : List Int) (hL : (L.length : Int) = r * c) {ρ : Int × Int × Int × List Int × List Bool}
    (ih : Ev (fun k => impl_Gas_stream.l0 k l l.length (wrap64 ((n : Int) + 1)) w r c l b w r c (scell w r c (n / c.toNat) (n % c.toNat) (rd l (n : Int)) w.toNat L) b) ρ) : Ev (fun k => impl_Gas_stream.l1 k n (rd l (n : Int)) l l.length n w 0 w r c l b w r c L b) ρ := by
  have hw := h.w0
  have r0 := h.r0; have r1 := h.r1; have c0 := h.c0; have c1 := h.c1
  have w4 : 0 ≤ w ∧ w ≤ 6 := by omega
  have hlen := h.len
  obtain ⟨C, rfl⟩ := Int.eq_ofNat_of_zero_le (show 0 ≤ c by omega)
  have ih' := ih
  rw [Int.toNat_natCast] at ih'
  obtain ⟨i, hi⟩ : ∃ i, i = n / C := ⟨_, rfl⟩
  obtain ⟨j, hj⟩ : ∃ j, j = n % C := ⟨_, rfl⟩
  have d1 : Int.tdiv (n : Int) (C : Int) = (i : Int) := by rw [hi]; rfl
  have d2 : Int.tmod (n : Int) (C : Int) = (j : Int) := by rw [hj]; rfl
  have d3 : i ≤ n := by rw [hi]; exact Nat.div_le_self _ _
  have d4 : j ≤ n := by rw [hj]; exact Nat.mod_le _ _
  rw [← hi, ← hj] at ih'
  refine Ev.upto w.toNat (fun _ => True) (fun k => scell w r C i j (rd l (n : Int)) k L) ρ (fun k s x => impl_Gas_stream.l1 k n (rd l (n : Int)) l l.length n w x w r C l b w r C s b) (fun m hm _ ihm => ?_) (fun _ => ?_) trivial
  · refine Ev.succ ?_
    simp only [impl_Gas_stream.l1]
    have ihm' := ihm trivial
    have ww := wayW hw m (by omega) r C l b
    have hs := scell_length w r C i j (rd l (n : Int)) m L
    have ht := tgt_in w i j m r0 r1 c0 c1
    have h5 : r * (C : Int) ≤ 16 * 16 := Int.mul_le_mul r1 c1 (by omega) (by omega)
    rw [wrap_id (x := (m : Int) + 1) (by omega) (by omega), d1, d2]
    refine Ev.pos (by omega) (Ev.pos (by omega) ?_)
    simp only [scell, sput] at ihm'
    by_cases g : Go.bits .and .i64 (shr .i64 (rd l (n : Int)) (m : Int)) 1 = 1
    · rw [if_pos g] at ihm'
      refine Ev.pos g (Ev.bnd ww.2.1 (Ev.neg (by omega) ?_))
      rw [wrap_id (x := (i : Int)) (by omega) (by omega), wrap_id (x := (i : Int) + (wayS w m).1) (by omega) (by omega), wrap_id (x := (j : Int) + (wayS w m).2) (by omega) (by omega)]
      refine Ev.bnd (floorMod _ _ (by omega)) (Ev.bnd (floorMod _ _ (by omega)) ?_)
      have e : wrap64 (wrap64 (fm ((i : Int) + (wayS w m).1) r * C) + fm ((j : Int) + (wayS w m).2) C) = tgt w r C i j m := by
        rw [wrap_id (x := fm ((i : Int) + (wayS w m).1) r * C) (by omega) (by omega)]
        show wrap64 (tgt w r C i j m) = _
        rw [wrap_id (by omega) (by omega)]
      rw [e]
      exact Ev.pos ht.1 (Ev.pos (by rw [hs]; omega) ihm')
    · rw [if_neg g] at ihm'
      exact Ev.neg g ihm'
  · refine Ev.succ ?_
    simp only [impl_Gas_stream.l1]
    exact Ev.neg (by omega) ih'
theorem streamImpl {w r c : Int} {l : List Int} {b : List Bool} (h : GasOk w r c l b) : Ev (fun k => impl_Gas_stream.f k w r c l b) (w, r, c, streamL w r c l, b) := by
  have hlen := h.len
  have hnb := h.nb
  have hn := h.n
  unfold impl_Gas_stream.f
  refine Ev.bind (a := (w, r, c, List.replicate l.length 0, b)) ?_ ?_
  · unfold impl_Gas_of_impl_Gas_stream_1.f
    refine Ev.bnd (a := b) ?_ ?_
    · unfold slices_Clone_bool_bool.f
      simp only [Option.bind_some]
      rw [if_pos (by simp; omega)]
      simp
    · refine Ev.congr (fun k => ?_) (Ev.upto l.length (fun _ => True) (fun i => List.replicate i 0) (w, r, c, List.replicate l.length 0, b) (fun k s i => impl_Gas_of_impl_Gas_stream_1.l0 k l l.length i w r c s b) (fun i hi _ ih => ?_) (fun _ => ?_) trivial)
      · simp
      · refine Ev.succ ?_
        simp only [impl_Gas_of_impl_Gas_stream_1.l0]
        have ih' := ih trivial
        rw [List.replicate_succ'] at ih'
        refine Ev.pos (by omega) (Ev.pos (by omega) (Ev.pos (by omega) (Ev.bnd (a := 0) rfl (Ev.pos (by rw [List.length_replicate]; omega) ?_))))
        rw [wrap_id (x := (i : Int) + 1) (by omega) (by omega)]
        exact ih'
      · refine Ev.succ ?_
        simp only [impl_Gas_of_impl_Gas_stream_1.l0]
        exact Ev.neg (by omega) (Ev.now _)
  · refine Ev.upto l.length (fun _ => True) (fun n => sgrid w r c l n) (w, r, c, streamL w r c l, b) (fun k s i => impl_Gas_stream.l0 k l l.length i w r c l b w r c s b) (fun i hi _ ih => ?_) (fun _ => ?_) trivial
    · refine Ev.succ ?_
      simp only [impl_Gas_stream.l0]
      have ih' := ih trivial
      refine Ev.pos (by omega) (Ev.pos (by omega) (Ev.pos (by omega) (streamCellImpl h hi _ (by rw [sgrid_length]; exact hn) ?_)))
      rw [wrap_id (x := (i : Int) + 1) (by omega) (by omega)]
      simp only [sgrid] at ih'
      exact ih'
    · refine Ev.succ ?_
      simp only [impl_Gas_stream.l0]
      exact Ev.neg (by omega) (Ev.now _)

theorem turned_l (x1 x2 x10 w r c : Int) (l : List Int) (b : List Bool) : ∀ (k : Nat) (x7 x11 : Int), impl_Gas_turned.l0 k x1 x2 x7 x10 x11 w r c l b = impl_Gas_turned.l0 k x1 x2 x7 x10 x11 w 1 1 [] [] := by
  intro k
  induction k with
  | zero => intro x7 x11; rfl
  | succ k ih => intro x7 x11; simp only [impl_Gas_turned.l0, ih]
theorem turned_f (k : Nat) (w r c : Int) (l : List Int) (b : List Bool) (x y : Int) : impl_Gas_turned.f k w r c l b x y = impl_Gas_turned.f k w 1 1 [] [] x y := by
  unfold impl_Gas_turned.f
  exact turned_l _ _ _ _ _ _ _ _ _ _ _

theorem collided_f (k : Nat) (w r c : Int) (l : List Int) (b : List Bool) (x : Int) (f : Bool) : impl_Gas_collided.f k w r c l b x f = impl_Gas_collided.f k w 1 1 [] [] x f := by
  have j1 : ∀ k x f, impl_Gas_collided.j1 k x f w r c l b = impl_Gas_collided.j1 k x f w 1 1 [] [] := fun k x f => by
    cases k with
    | zero => rfl
    | succ k => simp only [impl_Gas_collided.j1, turned_f k w r c l b]
  have j0 : ∀ k x f y g, impl_Gas_collided.j0 k x f y g w r c l b = impl_Gas_collided.j0 k x f y g w 1 1 [] [] := fun k x f y g => by
    cases k with
    | zero => rfl
    | succ k => simp only [impl_Gas_collided.j0, j1, turned_f k w r c l b]
  unfold impl_Gas_collided.f
  simp only [j0, turned_f k w r c l b]
/-- What a cell becomes. -/
def collideC (w : Int) (f wall : Bool) (x : Int) : Int := if wall = true then (impl_Gas_turned.f 20 w 1 1 [] [] x (wrap64 (Int.tdiv w 2))).getD 0 else (impl_Gas_collided.f 20 w 1 1 [] [] x f).getD 0
theorem tab4 : ∀ x : Fin 16, ∀ f : Bool, impl_Gas_turned.f 20 4 1 1 [] [] (x.val : Int) (wrap64 (Int.tdiv 4 2)) = some (collideC 4 f true (x.val : Int)) ∧ impl_Gas_turned.f 20 4 1 1 [] [] (x.val : Int) (wrap64 (Int.tdiv 4 2)) = some (collideC 4 f true (x.val : Int)) ∧ impl_Gas_collided.f 20 4 1 1 [] [] (x.val : Int) f = some (collideC 4 f false (x.val : Int)) ∧ impl_Gas_collided.f 20 4 1 1 [] [] (x.val : Int) f = some (collideC 4 f false (x.val : Int)) ∧ 0 ≤ collideC 4 f true (x.val : Int) ∧ collideC 4 f true (x.val : Int) ≤ 15 ∧ 0 ≤ collideC 4 f false (x.val : Int) ∧ collideC 4 f false (x.val : Int) ≤ 15 := by decide +kernel
theorem tab6 : ∀ x : Fin 64, ∀ f : Bool, impl_Gas_turned.f 20 6 1 1 [] [] (x.val : Int) (wrap64 (Int.tdiv 6 2)) = some (collideC 6 f true (x.val : Int)) ∧ impl_Gas_turned.f 20 6 1 1 [] [] (x.val : Int) (wrap64 (Int.tdiv 6 2)) = some (collideC 6 f true (x.val : Int)) ∧ impl_Gas_collided.f 20 6 1 1 [] [] (x.val : Int) f = some (collideC 6 f false (x.val : Int)) ∧ impl_Gas_collided.f 20 6 1 1 [] [] (x.val : Int) f = some (collideC 6 f false (x.val : Int)) ∧ 0 ≤ collideC 6 f true (x.val : Int) ∧ collideC 6 f true (x.val : Int) ≤ 63 ∧ 0 ≤ collideC 6 f false (x.val : Int) ∧ collideC 6 f false (x.val : Int) ≤ 63 := by decide +kernel
theorem tabW {w x : Int} (hw : w = 4 ∨ w = 6) (h0 : 0 ≤ x) (h1 : x ≤ topOf w) (f : Bool) : impl_Gas_turned.f 20 w 1 1 [] [] x (wrap64 (Int.tdiv w 2)) = some (collideC w f true x) ∧ impl_Gas_turned.f 20 w 1 1 [] [] x (wrap64 (Int.tdiv w 2)) = some (collideC w f true x) ∧ impl_Gas_collided.f 20 w 1 1 [] [] x f = some (collideC w f false x) ∧ impl_Gas_collided.f 20 w 1 1 [] [] x f = some (collideC w f false x) ∧ 0 ≤ collideC w f true x ∧ collideC w f true x ≤ topOf w ∧ 0 ≤ collideC w f false x ∧ collideC w f false x ≤ topOf w := by
  obtain ⟨n, rfl⟩ := Int.eq_ofNat_of_zero_le h0
  rcases hw with rfl | rfl
  · exact tab4 ⟨n, by have : topOf 4 = 15 := rfl; omega⟩ f
  · exact tab6 ⟨n, by have : topOf 6 = 63 := rfl; omega⟩ f
theorem collideC_in {w x : Int} (hw : w = 4 ∨ w = 6) (h0 : 0 ≤ x) (h1 : x ≤ topOf w) (f wall : Bool) : 0 ≤ collideC w f wall x ∧ collideC w f wall x ≤ topOf w := by
  have h := tabW hw h0 h1 f
  cases wall with
  | true => exact ⟨h.2.2.2.2.1, h.2.2.2.2.2.1⟩
  | false => exact ⟨h.2.2.2.2.2.2.1, h.2.2.2.2.2.2.2⟩
theorem turnedImpl {w x : Int} (hw : w = 4 ∨ w = 6) (h0 : 0 ≤ x) (h1 : x ≤ topOf w) (f : Bool) (r c : Int) (l : List Int) (b : List Bool) : Ev (fun k => impl_Gas_turned.f k w r c l b x (wrap64 (Int.tdiv w 2))) (collideC w f true x) := Ev.of_mono (fun k => impl_Gas_turned.mono _ _ _ _ _ _ _ k) 20 (by rw [turned_f]; exact (tabW hw h0 h1 f).2.1)
theorem collidedImpl {w x : Int} (hw : w = 4 ∨ w = 6) (h0 : 0 ≤ x) (h1 : x ≤ topOf w) (f : Bool) (r c : Int) (l : List Int) (b : List Bool) : Ev (fun k => impl_Gas_collided.f k w r c l b x f) (collideC w f false x) := Ev.of_mono (fun k => impl_Gas_collided.mono _ _ _ _ _ _ _ k) 20 (by rw [collided_f]; exact (tabW hw h0 h1 f).2.2.2.1)

/-- The cells behind collisions. -/
def collideL (w : Int) (f : Bool) (l : List Int) (b : List Bool) : List Int := List.zipWith (fun x wall => collideC w f wall x) l b
theorem collideL_length (w : Int) (f : Bool) (l : List Int) (b : List Bool) (h : b.length = l.length) : (collideL w f l b).length = l.length := by simp [collideL, h]
theorem collideL_get (w : Int) (f : Bool) (l : List Int) (b : List Bool) (h : b.length = l.length) (i : Nat) (hi : i < l.length) : (collideL w f l b)[i]'(by rw [collideL_length w f l b h]; exact hi) = collideC w f (b[i]'(by omega)) l[i] := by simp [collideL]
theorem collideL_ok {w r c : Int} {l : List Int} {b : List Bool} (h : GasOk w r c l b) (f : Bool) : GasOk w r c (collideL w f l b) b := by
  have hl := collideL_length w f l b h.nb
  refine ⟨h.w0, h.r0, h.r1, h.c0, h.c1, by rw [hl]; exact h.n, by rw [hl]; exact h.nb, fun x hx => ?_⟩
  obtain ⟨i, hi, rfl⟩ := List.getElem_of_mem hx
  rw [collideL_get w f l b h.nb i (by omega)]
  have := h.all l[i] (List.getElem_mem (by omega))
  exact collideC_in h.w0 this.1 this.2 f _
theorem collideImpl {w r c : Int} {l : List Int} {b : List Bool} (h : GasOk w r c l b) (f : Bool) : Ev (fun k => impl_Gas_collide.f k w r c l b f) (w, r, c, collideL w f l b, b) := by
  have hlen := h.len
  have hnb := h.nb
  have hL := collideL_length w f l b h.nb
  unfold impl_Gas_collide.f impl_Gas_of_impl_Gas_collide_1.f
  refine Ev.bind (a := (w, r, c, collideL w f l b, b)) ?_ (Ev.now _)
  refine Ev.bnd (a := b) ?_ ?_
  · unfold slices_Clone_bool_bool.f
    simp only [Option.bind_some]
    rw [if_pos (by simp; omega)]
    simp
  · refine Ev.congr (fun k => ?_) (Ev.upto l.length (fun _ => True) (fun i => (collideL w f l b).take i) (w, r, c, collideL w f l b, b) (fun k s i => impl_Gas_of_impl_Gas_collide_1.l0 k l l.length i w r c l b f w r c s b) (fun i hi _ ih => ?_) (fun _ => ?_) trivial)
    · simp
    · refine Ev.succ ?_
      simp only [impl_Gas_of_impl_Gas_collide_1.l0]
      have hx := h.all l[i] (List.getElem_mem hi)
      have ih' := ih trivial
      rw [List.take_succ_eq_append_getElem (by omega), collideL_get w f l b h.nb i hi] at ih'
      refine Ev.pos (by omega) (Ev.pos (by omega) (Ev.pos (by omega) (Ev.bind (a := collideC w f (b[i]'(by omega)) l[i]) ?_ (Ev.pos (by rw [List.length_take]; omega) ?_))))
      · unfold impl_Gas_collide_1.f
        rw [rd_lt l i hi, rdOf_lt false b i (by omega)]
        refine Ev.pos (by omega) (Ev.pos (by omega) ?_)
        by_cases g : b[i] = true
        · rw [g]
          exact Ev.pos rfl (Ev.ret (turnedImpl h.w0 hx.1 hx.2 f r c l b))
        · have g' : b[i] = false := by simpa using g
          rw [g']
          exact Ev.neg (by simp) (Ev.ret (collidedImpl h.w0 hx.1 hx.2 f r c l b))
      · rw [wrap_id (x := (i : Int) + 1) (by omega) (by omega)]
        exact ih'
    · refine Ev.succ ?_
      simp only [impl_Gas_of_impl_Gas_collide_1.l0]
      rw [List.take_of_length_le (by omega)]
      exact Ev.neg (by omega) (Ev.now _)

theorem fm_emod (x n : Int) (h0 : 0 < n) (hn : n ≤ 1000000000000) : fm x n = x % n := by
  unfold fm
  have h1 := Int.tmod_lt_of_pos x h0
  have h2 : -n < Int.tmod x n := by
    have := Int.tmod_lt_of_pos (-x) h0
    rw [Int.neg_tmod] at this
    omega
  rw [wrap_id (x := Int.tmod x n + n) (by omega) (by omega), Int.tmod_eq_emod_of_nonneg (by omega), Int.add_emod_right, Int.tmod_def]
  exact Int.sub_mul_emod_self_left x n _

theorem perm_sum {l m : List Int} (h : l.Perm m) : l.sum = m.sum := by
  induction h with
  | nil => rfl
  | cons x _ ih => simp only [List.sum_cons]; omega
  | swap x y l => simp only [List.sum_cons]; omega
  | trans _ _ h1 h2 => omega
theorem sum_bij (n : Nat) (σ τ : Nat → Nat) (hσ : ∀ p, p < n → σ p < n) (hτ : ∀ p, p < n → τ p < n) (h1 : ∀ p, p < n → τ (σ p) = p) (h2 : ∀ p, p < n → σ (τ p) = p) (f : Nat → Int) : ((List.range n).map fun p => f (σ p)).sum = ((List.range n).map f).sum := by
  have hp : ((List.range n).map σ).Perm (List.range n) := by
    refine (List.perm_ext_iff_of_nodup ?_ List.nodup_range).2 fun a => ?_
    · refine List.pairwise_map.2 (List.Pairwise.imp_of_mem (fun {a b} ha hb hne he => hne ?_) List.nodup_range)
      rw [← h1 a (List.mem_range.1 ha), ← h1 b (List.mem_range.1 hb), he]
    · simp only [List.mem_map, List.mem_range]
      constructor
      · rintro ⟨q, hq, rfl⟩; exact hσ q hq
      · intro ha; exact ⟨τ a, hτ a ha, h2 a ha⟩
  have := perm_sum (hp.map f)
  rw [List.map_map] at this
  exact this
/-- A bit of a cell. -/
def bitOf (x : Int) (k : Nat) : Int := Go.bits .and .i64 (shr .i64 x (k : Int)) 1
def oppK (w : Int) (k : Nat) : Nat := (k + w.toNat / 2) % w.toNat
def pops (w x : Int) : Int := ((List.range w.toNat).map fun k => bitOf x k * 1).sum
def momA (w x : Int) : Int := ((List.range w.toNat).map fun k => bitOf x k * (wayS w (k : Int)).1).sum
def momB (w x : Int) : Int := ((List.range w.toNat).map fun k => bitOf x k * (wayS w (k : Int)).2).sum
theorem bits4a : ∀ x : Fin 16, (x.val : Int) = bitOf x.val 0 + 2 * bitOf x.val 1 + 4 * bitOf x.val 2 + 8 * bitOf x.val 3 ∧ ∀ k : Fin 4, bitOf x.val k.val = 0 ∨ bitOf x.val k.val = 1 := by decide +kernel
theorem bits6a : ∀ x : Fin 64, (x.val : Int) = bitOf x.val 0 + 2 * bitOf x.val 1 + 4 * bitOf x.val 2 + 8 * bitOf x.val 3 + 16 * bitOf x.val 4 + 32 * bitOf x.val 5 ∧ ∀ k : Fin 6, bitOf x.val k.val = 0 ∨ bitOf x.val k.val = 1 := by decide +kernel
theorem bits4b : ∀ x : Fin 16, ∀ k m : Fin 4, bitOf (Go.bits .or .i64 (x.val : Int) (shl .i64 1 (k.val : Int))) m.val = if m = k then 1 else bitOf x.val m.val := by decide +kernel
theorem bits6b : ∀ x : Fin 64, ∀ k m : Fin 6, bitOf (Go.bits .or .i64 (x.val : Int) (shl .i64 1 (k.val : Int))) m.val = if m = k then 1 else bitOf x.val m.val := by decide +kernel
theorem bits4c : ∀ x : Fin 16, ∀ f : Bool, (∀ k : Fin 4, bitOf (collideC 4 f true x.val) (oppK 4 k.val) = bitOf x.val k.val) ∧ collideC 4 f true (collideC 4 f true x.val) = x.val ∧ collideC 4 (!f) false (collideC 4 f false x.val) = x.val ∧ collideC 4 f true x.val = collideC 4 true true x.val := by decide +kernel
theorem bits6c : ∀ x : Fin 64, ∀ f : Bool, (∀ k : Fin 6, bitOf (collideC 6 f true x.val) (oppK 6 k.val) = bitOf x.val k.val) ∧ collideC 6 f true (collideC 6 f true x.val) = x.val ∧ collideC 6 (!f) false (collideC 6 f false x.val) = x.val ∧ collideC 6 f true x.val = collideC 6 true true x.val := by decide +kernel
theorem bits4d : ∀ x : Fin 16, ∀ f wall : Bool, pops 4 (collideC 4 f wall x.val) = pops 4 x.val ∧ momA 4 (collideC 4 f false x.val) = momA 4 x.val ∧ momB 4 (collideC 4 f false x.val) = momB 4 x.val ∧ momA 4 (collideC 4 f true x.val) = -momA 4 x.val ∧ momB 4 (collideC 4 f true x.val) = -momB 4 x.val := by decide +kernel
theorem bits6d : ∀ x : Fin 64, ∀ f wall : Bool, pops 6 (collideC 6 f wall x.val) = pops 6 x.val ∧ momA 6 (collideC 6 f false x.val) = momA 6 x.val ∧ momB 6 (collideC 6 f false x.val) = momB 6 x.val ∧ momA 6 (collideC 6 f true x.val) = -momA 6 x.val ∧ momB 6 (collideC 6 f true x.val) = -momB 6 x.val := by decide +kernel
theorem opp4 : ∀ k : Fin 4, oppK 4 k.val < 4 ∧ oppK 4 (oppK 4 k.val) = k.val ∧ (wayS 4 (oppK 4 k.val : Nat)).1 = -(wayS 4 (k.val : Int)).1 ∧ (wayS 4 (oppK 4 k.val : Nat)).2 = -(wayS 4 (k.val : Int)).2 := by decide +kernel
theorem opp6 : ∀ k : Fin 6, oppK 6 k.val < 6 ∧ oppK 6 (oppK 6 k.val) = k.val ∧ (wayS 6 (oppK 6 k.val : Nat)).1 = -(wayS 6 (k.val : Int)).1 ∧ (wayS 6 (oppK 6 k.val : Nat)).2 = -(wayS 6 (k.val : Int)).2 := by decide +kernel
theorem bitOf_01 {w x : Int} (hw : w = 4 ∨ w = 6) (h0 : 0 ≤ x) (h1 : x ≤ topOf w) (k : Nat) (hk : (k : Int) < w) : bitOf x k = 0 ∨ bitOf x k = 1 := by
  obtain ⟨n, rfl⟩ := Int.eq_ofNat_of_zero_le h0
  rcases hw with rfl | rfl
  · exact (bits4a ⟨n, by have : topOf 4 = 15 := rfl; omega⟩).2 ⟨k, by omega⟩
  · exact (bits6a ⟨n, by have : topOf 6 = 63 := rfl; omega⟩).2 ⟨k, by omega⟩
theorem bitOf_ext {w x y : Int} (hw : w = 4 ∨ w = 6) (h0 : 0 ≤ x) (h1 : x ≤ topOf w) (g0 : 0 ≤ y) (g1 : y ≤ topOf w) (h : ∀ k : Nat, (k : Int) < w → bitOf x k = bitOf y k) : x = y := by
  obtain ⟨n, rfl⟩ := Int.eq_ofNat_of_zero_le h0
  obtain ⟨m, rfl⟩ := Int.eq_ofNat_of_zero_le g0
  rcases hw with rfl | rfl
  · have a := (bits4a ⟨n, by have : topOf 4 = 15 := rfl; omega⟩).1
    have b := (bits4a ⟨m, by have : topOf 4 = 15 := rfl; omega⟩).1
    have e0 := h 0 (by omega); have e1 := h 1 (by omega); have e2 := h 2 (by omega); have e3 := h 3 (by omega)
    simp only at a b
    omega
  · have a := (bits6a ⟨n, by have : topOf 6 = 63 := rfl; omega⟩).1
    have b := (bits6a ⟨m, by have : topOf 6 = 63 := rfl; omega⟩).1
    have e0 := h 0 (by omega); have e1 := h 1 (by omega); have e2 := h 2 (by omega); have e3 := h 3 (by omega); have e4 := h 4 (by omega); have e5 := h 5 (by omega)
    simp only at a b
    omega
theorem bitOf_or {w x : Int} (hw : w = 4 ∨ w = 6) (h0 : 0 ≤ x) (h1 : x ≤ topOf w) (k m : Nat) (hk : (k : Int) < w) (hm : (m : Int) < w) : bitOf (Go.bits .or .i64 x (shl .i64 1 (k : Int))) m = if m = k then 1 else bitOf x m := by
  obtain ⟨n, rfl⟩ := Int.eq_ofNat_of_zero_le h0
  rcases hw with rfl | rfl
  · have := bits4b ⟨n, by have : topOf 4 = 15 := rfl; omega⟩ ⟨k, by omega⟩ ⟨m, by omega⟩
    simp only [Fin.mk.injEq] at this
    exact this
  · have := bits6b ⟨n, by have : topOf 6 = 63 := rfl; omega⟩ ⟨k, by omega⟩ ⟨m, by omega⟩
    simp only [Fin.mk.injEq] at this
    exact this
theorem rev_bits {w x : Int} (hw : w = 4 ∨ w = 6) (h0 : 0 ≤ x) (h1 : x ≤ topOf w) (f : Bool) : (∀ k : Nat, (k : Int) < w → bitOf (collideC w f true x) (oppK w k) = bitOf x k) ∧ collideC w f true (collideC w f true x) = x ∧ collideC w (!f) false (collideC w f false x) = x ∧ collideC w f true x = collideC w true true x := by
  obtain ⟨n, rfl⟩ := Int.eq_ofNat_of_zero_le h0
  rcases hw with rfl | rfl
  · have := bits4c ⟨n, by have : topOf 4 = 15 := rfl; omega⟩ f
    exact ⟨fun k hk => this.1 ⟨k, by omega⟩, this.2⟩
  · have := bits6c ⟨n, by have : topOf 6 = 63 := rfl; omega⟩ f
    exact ⟨fun k hk => this.1 ⟨k, by omega⟩, this.2⟩
theorem col_sums {w x : Int} (hw : w = 4 ∨ w = 6) (h0 : 0 ≤ x) (h1 : x ≤ topOf w) (f wall : Bool) : pops w (collideC w f wall x) = pops w x ∧ momA w (collideC w f false x) = momA w x ∧ momB w (collideC w f false x) = momB w x ∧ momA w (collideC w f true x) = -momA w x ∧ momB w (collideC w f true x) = -momB w x := by
  obtain ⟨n, rfl⟩ := Int.eq_ofNat_of_zero_le h0
  rcases hw with rfl | rfl
  · exact bits4d ⟨n, by have : topOf 4 = 15 := rfl; omega⟩ f wall
  · exact bits6d ⟨n, by have : topOf 6 = 63 := rfl; omega⟩ f wall
theorem opp_ok {w : Int} (hw : w = 4 ∨ w = 6) (k : Nat) (hk : (k : Int) < w) : (oppK w k : Int) < w ∧ oppK w (oppK w k) = k ∧ (wayS w (oppK w k : Nat)).1 = -(wayS w (k : Int)).1 ∧ (wayS w (oppK w k : Nat)).2 = -(wayS w (k : Int)).2 := by
  rcases hw with rfl | rfl
  · have := opp4 ⟨k, by omega⟩
    exact ⟨by have := this.1; simp only at this; omega, this.2⟩
  · have := opp6 ⟨k, by omega⟩
    exact ⟨by have := this.1; simp only at this; omega, this.2⟩
theorem way_small {w : Int} (hw : w = 4 ∨ w = 6) (k : Nat) (hk : (k : Int) < w) : -1 ≤ (wayS w (k : Int)).1 ∧ (wayS w (k : Int)).1 ≤ 1 ∧ -1 ≤ (wayS w (k : Int)).2 ∧ (wayS w (k : Int)).2 ≤ 1 := by
  have := wayW hw k hk 1 1 [] []
  exact ⟨this.2.2.1, this.2.2.2.1, this.2.2.2.2.1, this.2.2.2.2.2⟩
/-- Where a cell's bit goes. -/
def tgtN (w r c : Int) (k p : Nat) : Nat := (tgt w r c (p / c.toNat) (p % c.toNat) k).toNat
theorem tgtN_lt {w r c : Int} {l : List Int} {b : List Bool} (h : GasOk w r c l b) (k p : Nat) : tgtN w r c k p < l.length := by
  have ht := tgt_in w (p / c.toNat) (p % c.toNat) k h.r0 h.r1 h.c0 h.c1
  have hn := h.n
  unfold tgtN
  omega
theorem fm_back (i n : Nat) (d : Int) (hi : i < n) (hn : n ≤ 16) : ∃ A : Nat, fm ((i : Int) + d) n = (A : Int) ∧ A < n ∧ fm ((A : Int) + -d) n = (i : Int) := by
  rw [fm_emod _ _ (by omega) (by omega)]
  have h0 := Int.emod_nonneg ((i : Int) + d) (show (n : Int) ≠ 0 by omega)
  have h1 := Int.emod_lt_of_pos ((i : Int) + d) (show 0 < (n : Int) by omega)
  obtain ⟨A, hA⟩ := Int.eq_ofNat_of_zero_le h0
  refine ⟨A, hA, by omega, ?_⟩
  rw [fm_emod _ _ (by omega) (by omega), ← hA, Int.emod_add_emod, show (i : Int) + d + -d = i by omega]
  exact Int.emod_eq_of_lt (by omega) (by omega)
theorem tgtN_inv {w r c : Int} {l : List Int} {b : List Bool} (h : GasOk w r c l b) (k p : Nat) (hk : (k : Int) < w) (hp : p < l.length) : tgtN w r c (oppK w k) (tgtN w r c k p) = p := by
  have r0 := h.r0; have r1 := h.r1; have c0 := h.c0; have c1 := h.c1; have hn := h.n
  have ho := opp_ok h.w0 k hk
  obtain ⟨R, rfl⟩ := Int.eq_ofNat_of_zero_le (show 0 ≤ r by omega)
  obtain ⟨C, rfl⟩ := Int.eq_ofNat_of_zero_le (show 0 ≤ c by omega)
  have hRC : l.length = R * C := by exact_mod_cast hn
  have hp2 : p < C * R := by rw [Nat.mul_comm]; omega
  have hi : p / C < R := Nat.div_lt_of_lt_mul hp2
  have hj : p % C < C := Nat.mod_lt _ (by omega)
  have hd := Nat.div_add_mod p C
  obtain ⟨A, hA, hA1, hA2⟩ := fm_back (p / C) R (wayS w k).1 hi (by omega)
  obtain ⟨B, hB, hB1, hB2⟩ := fm_back (p % C) C (wayS w k).2 hj (by omega)
  have e1 : tgtN w R C k p = A * C + B := by
    unfold tgtN tgt
    simp only [Int.toNat_natCast]
    rw [hA, hB, ← Int.natCast_mul, ← Int.natCast_add, Int.toNat_natCast]
  have h1 : (A * C + B) / C = A := by rw [Nat.mul_comm, Nat.mul_add_div (by omega), Nat.div_eq_of_lt hB1, Nat.add_zero]
  have h2 : (A * C + B) % C = B := by rw [Nat.mul_comm, Nat.mul_add_mod, Nat.mod_eq_of_lt hB1]
  rw [e1]
  unfold tgtN tgt
  simp only [Int.toNat_natCast]
  rw [h1, h2, ho.2.2.1, ho.2.2.2, hA2, hB2, ← Int.natCast_mul, ← Int.natCast_add, Int.toNat_natCast, Nat.mul_comm]
  exact hd
theorem tgtN_inv2 {w r c : Int} {l : List Int} {b : List Bool} (h : GasOk w r c l b) (k p : Nat) (hk : (k : Int) < w) (hp : p < l.length) : tgtN w r c k (tgtN w r c (oppK w k) p) = p := by
  have ho := opp_ok h.w0 k hk
  have := tgtN_inv h (oppK w k) p ho.1 hp
  rw [ho.2.1] at this
  exact this
theorem sput_bit {w r c : Int} (hw : w = 4 ∨ w = 6) (r0 : 1 ≤ r) (r1 : r ≤ 16) (c0 : 1 ≤ c) (c1 : c ≤ 16) (i j : Nat) (x : Int) (k : Nat) (L : List Int) (hL : (L.length : Int) = r * c) (hr : ∀ y ∈ L, 0 ≤ y ∧ y ≤ topOf w) (hk : (k : Int) < w) (q m : Nat) (hq : q < L.length) (hm : (m : Int) < w) : bitOf (rd (sput w r c i j x k L) (q : Int)) m = if m = k ∧ (tgt w r c i j k).toNat = q ∧ bitOf x k = 1 then 1 else bitOf (rd L (q : Int)) m := by
  have ht := tgt_in w i j k r0 r1 c0 c1
  unfold sput
  by_cases g : Go.bits .and .i64 (shr .i64 x (k : Int)) 1 = 1
  · rw [if_pos g]
    have g' : bitOf x k = 1 := g
    have hr0 := hr _ (rd_mem L (tgt w r c i j k) ht.1 (by omega))
    by_cases e : (tgt w r c i j k).toNat = q
    · have e2 : tgt w r c i j k = (q : Int) := by omega
      rw [e2] at hr0 ⊢
      rw [Int.toNat_natCast, rd_lt _ q (by rw [List.length_set]; exact hq), List.getElem_set_self, bitOf_or hw hr0.1 hr0.2 k m hk hm]
      simp [g']
    · rw [rd_lt _ q (by rw [List.length_set]; exact hq), rd_lt L q hq, List.getElem_set_ne e, if_neg (fun h => e h.2.1)]
  · rw [if_neg g, if_neg (fun h => g h.2.2)]
theorem scell_bit {w r c : Int} (hw : w = 4 ∨ w = 6) (r0 : 1 ≤ r) (r1 : r ≤ 16) (c0 : 1 ≤ c) (c1 : c ≤ 16) (i j : Nat) (x : Int) (L : List Int) (hL : (L.length : Int) = r * c) (hr : ∀ y ∈ L, 0 ≤ y ∧ y ≤ topOf w) (K : Nat) (hK : (K : Int) ≤ w) (q m : Nat) (hq : q < L.length) (hm : (m : Int) < w) : bitOf (rd (scell w r c i j x K L) (q : Int)) m = if m < K ∧ (tgt w r c i j m).toNat = q ∧ bitOf x m = 1 then 1 else bitOf (rd L (q : Int)) m := by
  induction K with
  | zero => simp [scell]
  | succ K ih =>
    have ih' := ih (by omega)
    simp only [scell]
    rw [sput_bit hw r0 r1 c0 c1 i j x K _ (by rw [scell_length]; exact hL) (scell_in hw r0 r1 c0 c1 i j x L hL hr K (by omega)) (by omega) q m (by rw [scell_length]; exact hq) hm, ih']
    by_cases e : m = K
    · subst e
      simp
    · have e2 : (m < K + 1) ↔ (m < K) := by omega
      rw [if_neg (fun h => e h.1)]
      simp only [e2]
theorem sgrid_in {w r c : Int} {l : List Int} {b : List Bool} (h : GasOk w r c l b) (m : Nat) : ∀ y ∈ sgrid w r c l m, 0 ≤ y ∧ y ≤ topOf w := by
  induction m with
  | zero => intro x hx; simp only [sgrid, List.mem_replicate] at hx; rw [hx.2]; have : topOf w = 15 ∨ topOf w = 63 := by unfold topOf; split <;> simp
            omega
  | succ m ih => simp only [sgrid]; exact scell_in h.w0 h.r0 h.r1 h.c0 h.c1 _ _ _ _ (by rw [sgrid_length]; exact h.n) ih _ (by rcases h.w0 with rfl | rfl <;> decide)
theorem bitOf_zero : ∀ m : Fin 6, bitOf 0 m.val = 0 := by decide +kernel
theorem bitOf_cell {w r c : Int} {l : List Int} {b : List Bool} (h : GasOk w r c l b) (p k : Nat) (hp : p < l.length) (hk : (k : Int) < w) : bitOf (rd l (p : Int)) k = 0 ∨ bitOf (rd l (p : Int)) k = 1 := by
  have := h.all _ (rd_mem l (p : Int) (by omega) (by omega))
  exact bitOf_01 h.w0 this.1 this.2 k hk
theorem sgrid_bit {w r c : Int} {l : List Int} {b : List Bool} (h : GasOk w r c l b) (n : Nat) (hn : n ≤ l.length) (p m : Nat) (hp : p < l.length) (hm : (m : Int) < w) : bitOf (rd (sgrid w r c l n) (tgtN w r c m p : Nat)) m = if p < n then bitOf (rd l (p : Int)) m else 0 := by
  have hw := h.w0
  induction n with
  | zero =>
    have ht := tgtN_lt h m p
    simp only [sgrid]
    rw [rd_lt _ _ (by rw [List.length_replicate]; exact ht), List.getElem_replicate, if_neg (by omega)]
    exact bitOf_zero ⟨m, by omega⟩
  | succ n ih =>
    simp only [sgrid]
    rw [scell_bit h.w0 h.r0 h.r1 h.c0 h.c1 _ _ _ _ (by rw [sgrid_length]; exact h.n) (sgrid_in h n) w.toNat (by omega) _ m (by rw [sgrid_length]; exact tgtN_lt h m p) hm, ih (by omega)]
    have e0 : (tgt w r c (n / c.toNat) (n % c.toNat) m).toNat = tgtN w r c m n := rfl
    rw [e0]
    by_cases e : n = p
    · subst e
      have g01 := bitOf_cell h n m hp hm
      by_cases g : bitOf (rd l (n : Int)) m = 1
      · rw [if_pos ⟨by omega, rfl, g⟩, if_pos (by omega), g]
      · rw [if_neg (fun z => g z.2.2), if_neg (by omega), if_pos (by omega)]
        omega
    · have e2 : (p < n + 1) ↔ (p < n) := by omega
      rw [if_neg (fun z => e (by rw [← tgtN_inv h m n hm (by omega), z.2.1, tgtN_inv h m p hm hp]))]
      simp only [e2]
theorem stream_bit {w r c : Int} {l : List Int} {b : List Bool} (h : GasOk w r c l b) (p m : Nat) (hp : p < l.length) (hm : (m : Int) < w) : bitOf (rd (streamL w r c l) (tgtN w r c m p : Nat)) m = bitOf (rd l (p : Int)) m := by
  unfold streamL
  rw [sgrid_bit h _ (Nat.le_refl _) p m hp hm, if_pos hp]
theorem sum_add (f g : Nat → Int) (m : Nat) : ((List.range m).map fun k => f k + g k).sum = ((List.range m).map f).sum + ((List.range m).map g).sum := by
  induction m with
  | zero => rfl
  | succ m ih => simp only [List.range_succ, List.map_append, List.sum_append, List.map_cons, List.map_nil, List.sum_cons, List.sum_nil]; omega
theorem sum_zero (m : Nat) : ((List.range m).map fun _ => (0 : Int)).sum = 0 := by
  induction m with
  | zero => rfl
  | succ m ih => simp only [List.range_succ, List.map_append, List.sum_append, List.map_cons, List.map_nil, List.sum_cons, List.sum_nil]; omega
theorem sum_swap (f : Nat → Nat → Int) (n m : Nat) : ((List.range n).map fun p => ((List.range m).map fun k => f p k).sum).sum = ((List.range m).map fun k => ((List.range n).map fun p => f p k).sum).sum := by
  induction n with
  | zero => exact (sum_zero m).symm
  | succ n ih =>
    simp only [List.range_succ, List.map_append, List.sum_append, List.map_cons, List.map_nil, List.sum_cons, List.sum_nil, Int.add_zero]
    rw [ih]
    exact (sum_add (fun k => ((List.range n).map fun p => f p k).sum) (fun k => f n k) m).symm
theorem sum_bd (f : Nat → Int) (B : Int) (n : Nat) (h : ∀ p, p < n → -B ≤ f p ∧ f p ≤ B) : -(B * n) ≤ ((List.range n).map f).sum ∧ ((List.range n).map f).sum ≤ B * n := by
  induction n with
  | zero => simp
  | succ n ih =>
    have ih' := ih fun p hp => h p (by omega)
    have h' := h n (by omega)
    simp only [List.range_succ, List.map_append, List.sum_append, List.map_cons, List.map_nil, List.sum_cons, List.sum_nil]
    rw [show ((n + 1 : Nat) : Int) = (n : Int) + 1 from rfl, Int.mul_add, Int.mul_one]
    omega
/-- The weight of a cell, and of all. -/
def wsum (w : Int) (G : Nat → Int) (x : Int) : Int := ((List.range w.toNat).map fun k => bitOf x k * G k).sum
def totS (w : Int) (G : Nat → Int) (l : List Int) (n : Nat) : Int := ((List.range n).map fun (p : Nat) => wsum w G (rd l (p : Int))).sum
theorem totS_stream {w r c : Int} {l : List Int} {b : List Bool} (h : GasOk w r c l b) (G : Nat → Int) : totS w G (streamL w r c l) l.length = totS w G l l.length := by
  have hw := h.w0
  unfold totS wsum
  rw [sum_swap (fun p k => bitOf (rd (streamL w r c l) (p : Nat)) k * G k) l.length w.toNat, sum_swap (fun p k => bitOf (rd l (p : Nat)) k * G k) l.length w.toNat]
  refine congrArg List.sum (List.map_congr_left fun k hk => ?_)
  have hk' : (k : Int) < w := by have := List.mem_range.1 hk; omega
  have e := sum_bij l.length (tgtN w r c k) (tgtN w r c (oppK w k)) (fun p _ => tgtN_lt h k p) (fun p _ => tgtN_lt h _ p) (fun p hp => tgtN_inv h k p hk' hp) (fun p hp => tgtN_inv2 h k p hk' hp) (fun p => bitOf (rd (streamL w r c l) (p : Int)) k * G k)
  rw [← e]
  refine congrArg List.sum (List.map_congr_left fun p hp => ?_)
  rw [stream_bit h p k (List.mem_range.1 hp) hk']
theorem totS_cells (w : Int) (G H : Nat → Int) (l m : List Int) (n : Nat) (h : ∀ p, p < n → wsum w G (rd l (p : Int)) = wsum w H (rd m (p : Int))) : totS w G l n = totS w H m n := by
  unfold totS
  exact congrArg List.sum (List.map_congr_left fun p hp => h p (List.mem_range.1 hp))
theorem wsum_bd {w x : Int} (hw : w = 4 ∨ w = 6) (G : Nat → Int) (hG : ∀ k : Nat, (k : Int) < w → -1 ≤ G k ∧ G k ≤ 1) (h0 : 0 ≤ x) (h1 : x ≤ topOf w) : -6 ≤ wsum w G x ∧ wsum w G x ≤ 6 := by
  have := sum_bd (fun k => bitOf x k * G k) 1 w.toNat (fun k hk => by
    have g := hG k (by omega)
    rcases bitOf_01 hw h0 h1 k (by omega) with e | e
    · simp only [e]; omega
    · simp only [e]; omega)
  unfold wsum
  omega
theorem totS_bd {w r c : Int} {l : List Int} {b : List Bool} (h : GasOk w r c l b) (G : Nat → Int) (hG : ∀ k : Nat, (k : Int) < w → -1 ≤ G k ∧ G k ≤ 1) (n : Nat) (hn : n ≤ l.length) : -2000 ≤ totS w G l n ∧ totS w G l n ≤ 2000 := by
  have := sum_bd (fun p => wsum w G (rd l (p : Int))) 6 n (fun p hp => by
    have a := h.all _ (rd_mem l (p : Int) (by omega) (by omega))
    exact wsum_bd h.w0 G hG a.1 a.2)
  have hl := h.len
  unfold totS
  omega
theorem totS_succ (w : Int) (G : Nat → Int) (l : List Int) (n : Nat) : totS w G l (n + 1) = totS w G l n + wsum w G (rd l (n : Int)) := by
  unfold totS
  simp only [List.range_succ, List.map_append, List.sum_append, List.map_cons, List.map_nil, List.sum_cons, List.sum_nil]
  omega

/-- The cells behind n steps. -/
def runL (w r c : Int) (l : List Int) (b : List Bool) : Nat → List Int
  | 0 => l
  | n + 1 => streamL w r c (collideL w (((n : Int).tmod 2) == 0) (runL w r c l b n) b)
theorem runL_ok {w r c : Int} {l : List Int} {b : List Bool} (h : GasOk w r c l b) (n : Nat) : GasOk w r c (runL w r c l b n) b := by
  induction n with
  | zero => exact h
  | succ n ih => exact streamL_ok (collideL_ok ih _)
/-- What RunGas answers. -/
def runGas (w r c : Int) (l : List Int) (b : List Bool) (n : Int) : Int × Int × Int × List Int × List Bool × Bool := if validGas w r c l b = true ∧ (0 ≤ n ∧ n ≤ 512) then (w, r, c, runL w r c l b n.toNat, b, true) else (0, 0, 0, [], [], false)
theorem runGas_yes {w r c : Int} {l : List Int} {b : List Bool} {n : Int} (h : validGas w r c l b = true ∧ (0 ≤ n ∧ n ≤ 512)) : runGas w r c l b n = (w, r, c, runL w r c l b n.toNat, b, true) := if_pos h
theorem runGas_no {w r c : Int} {l : List Int} {b : List Bool} {n : Int} (h : ¬ (validGas w r c l b = true ∧ (0 ≤ n ∧ n ≤ 512))) : runGas w r c l b n = (0, 0, 0, [], [], false) := if_neg h
theorem runGasImpl (w r c : Int) (l : List Int) (b : List Bool) (n : Int) (hl : l.length ≤ 35184372088832) (hb : b.length ≤ 281474976710656) : Ev (fun k => impl_RunGas.f k w r c l b n) (runGas w r c l b n) := by
  have no : ∀ x : Bool, x = true → ¬ (validGas w r c l b = true ∧ (0 ≤ n ∧ n ≤ 512)) → Ev (fun k => impl_RunGas.j0 k n x w r c l b) (runGas w r c l b n) := fun x hx hn => by
    rw [runGas_no hn]
    refine Ev.succ ?_
    simp only [impl_RunGas.j0]
    exact Ev.pos hx (Ev.now _)
  unfold impl_RunGas.f
  refine Ev.bind (gasImpl w r c l b hl hb) ?_
  by_cases g : validGas w r c l b = true
  · refine Ev.pos g (Ev.bnd (within _ _ _) ?_)
    by_cases gn : 0 ≤ n ∧ n ≤ 512
    · have h := GasOk.of g
      have hlen := h.len
      have hnb := h.nb
      rw [runGas_yes ⟨g, gn⟩]
      obtain ⟨m, rfl⟩ := Int.eq_ofNat_of_zero_le gn.1
      refine Ev.succ ?_
      simp only [impl_RunGas.j0]
      refine Ev.neg (by simpa using gn) (Ev.bind (a := (w, r, c, l, b)) ?_ ?_)
      · unfold impl_Gas_of_impl_RunGas_1.f
        refine Ev.bnd (a := b) ?_ ?_
        · unfold slices_Clone_bool_bool.f
          simp only [Option.bind_some]
          rw [if_pos (by simp; omega)]
          simp
        · refine Ev.congr (fun k => ?_) (Ev.upto l.length (fun _ => True) (fun i => l.take i) (w, r, c, l, b) (fun k s i => impl_Gas_of_impl_RunGas_1.l0 k l l.length i w r c s b) (fun i hi _ ih => ?_) (fun _ => ?_) trivial)
          · simp
          · refine Ev.succ ?_
            simp only [impl_Gas_of_impl_RunGas_1.l0]
            have ih' := ih trivial
            rw [List.take_succ_eq_append_getElem hi] at ih'
            refine Ev.pos (by omega) (Ev.pos (by omega) (Ev.pos (by omega) (Ev.bnd (a := l[i]) (by rw [rd_lt l i hi]; rfl) (Ev.pos (by rw [List.length_take]; omega) ?_))))
            rw [wrap_id (x := (i : Int) + 1) (by omega) (by omega)]
            exact ih'
          · refine Ev.succ ?_
            simp only [impl_Gas_of_impl_RunGas_1.l0]
            rw [List.take_of_length_le (by omega)]
            exact Ev.neg (by omega) (Ev.now _)
      · rw [Int.toNat_natCast]
        refine Ev.upto m (fun _ => True) (fun i => runL w r c l b i) _ (fun k s i => impl_RunGas.l0 k m i w r c s b) (fun i hi _ ih => ?_) (fun _ => ?_) trivial
        · refine Ev.succ ?_
          simp only [impl_RunGas.l0]
          rw [wrap_id (x := (i : Int) + 1) (by omega) (by omega)]
          exact Ev.pos (by omega) (Ev.bind (collideImpl (runL_ok h i) _) (Ev.bind (streamImpl (collideL_ok (runL_ok h i) _)) (ih trivial)))
        · refine Ev.succ ?_
          simp only [impl_RunGas.l0]
          exact Ev.neg (by omega) (Ev.now _)
    · exact no _ (by rw [decide_eq_false gn]; rfl) (fun h => gn h.2)
  · exact Ev.neg g (no _ rfl (fun h => g h.1))

theorem slicesEqual (l m : List Int) (hl : l.length ≤ 35184372088832) : Ev (fun k => slices_Equal_int64_int64.f k l m) (decide (l = m)) := by
  unfold slices_Equal_int64_int64.f
  by_cases h : l.length = m.length
  · refine Ev.pos (by omega) ?_
    refine Ev.upto l.length (fun i => ∀ j, j < i → l[j]? = m[j]?) (fun _ => ()) _ (fun k _ i => slices_Equal_int64_int64.l0 k l m l.length i) (fun i hi hp ih => ?_) (fun hp => ?_) (fun j hj => by omega)
    · refine Ev.succ ?_
      simp only [slices_Equal_int64_int64.l0]
      refine Ev.pos (by omega) (Ev.pos (by omega) (Ev.pos (by omega) (Ev.pos (by omega) ?_)))
      rw [rd_lt l i (by omega), rd_lt m i (by omega)]
      by_cases e : l[i] = m[i]
      · refine Ev.pos e ?_
        rw [wrap_id (by omega) (by omega)]
        exact ih (fun j hj' => by
          by_cases hji : j < i
          · exact hp j hji
          · obtain rfl : j = i := by omega
            rw [List.getElem?_eq_getElem (by omega), List.getElem?_eq_getElem (by omega), e])
      · refine Ev.neg e (Ev.val ?_)
        rw [eq_comm, Option.some.injEq, decide_eq_false_iff_not]
        rintro rfl
        exact e rfl
    · refine Ev.succ ?_
      simp only [slices_Equal_int64_int64.l0]
      refine Ev.neg (by omega) (Ev.val ?_)
      have : l = m := List.ext_getElem? (fun j => by
        by_cases hjl : j < l.length
        · exact hp j (by omega)
        · rw [List.getElem?_eq_none (by omega), List.getElem?_eq_none (by omega)])
      simp [this]
  · refine Ev.neg (by omega) (Ev.val ?_)
    rw [eq_comm, Option.some.injEq, decide_eq_false_iff_not]
    rintro rfl
    exact h rfl

theorem slicesEqualB (l m : List Bool) (hl : l.length ≤ 35184372088832) : Ev (fun k => slices_Equal_bool_bool.f k l m) (decide (l = m)) := by
  unfold slices_Equal_bool_bool.f
  by_cases h : l.length = m.length
  · refine Ev.pos (by omega) ?_
    refine Ev.upto l.length (fun i => ∀ j, j < i → l[j]? = m[j]?) (fun _ => ()) _ (fun k _ i => slices_Equal_bool_bool.l0 k l m l.length i) (fun i hi hp ih => ?_) (fun hp => ?_) (fun j hj => by omega)
    · refine Ev.succ ?_
      simp only [slices_Equal_bool_bool.l0]
      refine Ev.pos (by omega) (Ev.pos (by omega) (Ev.pos (by omega) (Ev.pos (by omega) ?_)))
      rw [rdOf_lt false l i (by omega), rdOf_lt false m i (by omega)]
      by_cases e : l[i] = m[i]
      · refine Ev.neg (by simp [e]) ?_
        rw [wrap_id (by omega) (by omega)]
        exact ih (fun j hj' => by
          by_cases hji : j < i
          · exact hp j hji
          · obtain rfl : j = i := by omega
            rw [List.getElem?_eq_getElem (by omega), List.getElem?_eq_getElem (by omega), e])
      · refine Ev.pos (by simpa using e) (Ev.val ?_)
        rw [eq_comm, Option.some.injEq, decide_eq_false_iff_not]
        rintro rfl
        exact e rfl
    · refine Ev.succ ?_
      simp only [slices_Equal_bool_bool.l0]
      refine Ev.neg (by omega) (Ev.val ?_)
      have : l = m := List.ext_getElem? (fun j => by
        by_cases hjl : j < l.length
        · exact hp j (by omega)
        · rw [List.getElem?_eq_none (by omega), List.getElem?_eq_none (by omega)])
      simp [this]
  · refine Ev.neg (by omega) (Ev.val ?_)
    rw [eq_comm, Option.some.injEq, decide_eq_false_iff_not]
    rintro rfl
    exact h rfl

/-- Bytes. -/
def Bytes (l : List Int) : Prop := ∀ x ∈ l, 0 ≤ x ∧ x ≤ 255
theorem Bytes.of {l : List Int} (h : ∀ x ∈ l, (Lit.int .u8 x).wf = true) : Bytes l := by
  intro x hx
  have := h x hx
  simp only [Lit.wf, Bool.and_eq_true, decide_eq_true_eq] at this
  have h1 : x ≤ 255 := this.2
  have h0 : 0 ≤ x := this.1
  exact ⟨h0, h1⟩
theorem u64_wrap (n : Int) : IntKind.u64.wrap n = n % 18446744073709551616 := by simp [IntKind.wrap, IntKind.bits, IntKind.signed]
theorem src_high (z : Int) : 0 ≤ Go.bits .and .u64 (IntKind.u64.wrap z / 1099511627776) 255 ∧ Go.bits .and .u64 (IntKind.u64.wrap z / 1099511627776) 255 ≤ 255 := by
  have h0 : 0 ≤ IntKind.u64.wrap z := by rw [u64_wrap]; omega
  have h1 : IntKind.u64.wrap z < 18446744073709551616 := by rw [u64_wrap]; omega
  have e := bits_mask .u64 24 (by decide) (fun n h0 h1 => by rw [u64_wrap]; omega) 8 (by decide) (IntKind.u64.wrap z / 1099511627776) (by omega) (by omega)
  rw [show (255 : Int) = 2 ^ 8 - 1 from by decide]
  rw [e]
  omega
/-- The next byte. -/
theorem srcNext (l : List Int) (hb : Bytes l) (hl : l.length ≤ 140737488351232) (at_ seed : Int) (h0 : 0 ≤ at_) (h1 : at_ ≤ 1000000000000000) : ∃ x s, spec_l00Src_next.f l at_ seed = some (x, at_ + 1, s) ∧ 0 ≤ x ∧ x ≤ 255 := by
  unfold spec_l00Src_next.f
  rw [wrap_id (x := at_ + 1) (by omega) (by omega)]
  by_cases c : at_ < (l.length : Int)
  · have hx := hb _ (rd_mem l at_ h0 c)
    rw [if_pos c, if_pos h0, if_pos (by omega), wrap_id (x := rd l at_) (by omega) (by omega)]
    exact ⟨_, _, rfl, hx.1, hx.2⟩
  · rw [if_neg c, if_neg (by omega)]
    have h := src_high (IntKind.u64.wrap ((IntKind.u64.wrap (seed * 6364136223846793005))) + 1442695040888963407)
    rw [wrap_id (by omega) (by omega)]
    exact ⟨_, _, rfl, h.1, h.2⟩
/-- A number below n. -/
theorem srcPick (l : List Int) (hb : Bytes l) (hl : l.length ≤ 140737488351232) (at_ seed : Int) (h0 : 0 ≤ at_) (h1 : at_ ≤ 100000000000000) (n : Int) (hn : 1 ≤ n) (hm : n ≤ 200) : ∃ x a s, spec_l00Src_pick.f l at_ seed n = some (x, a, s) ∧ 0 ≤ x ∧ x < n ∧ 0 ≤ a ∧ a ≤ at_ + 1 := by
  unfold spec_l00Src_pick.f
  by_cases c : n ≤ 1
  · rw [if_pos c]
    exact ⟨_, _, _, rfl, by omega, by omega, h0, by omega⟩
  · obtain ⟨x, s, e, hx0, hx1⟩ := srcNext l hb hl at_ seed h0 (by omega)
    rw [if_neg c, e]
    simp only [Option.bind_some]
    rw [if_neg (by omega), if_neg (by omega), Int.tmod_eq_emod_of_nonneg hx0]
    exact ⟨_, _, _, rfl, Int.emod_nonneg _ (by omega), Int.emod_lt_of_pos _ (by omega), by omega, by omega⟩

theorem GasOk.valid {w r c : Int} {l : List Int} {b : List Bool} (h : GasOk w r c l b) : validGas w r c l b = true := by
  unfold validGas
  rw [decide_eq_true h.w0, decide_eq_true (show 1 ≤ r ∧ r ≤ 16 from ⟨h.r0, h.r1⟩), decide_eq_true (show 1 ≤ c ∧ c ≤ 16 from ⟨h.c0, h.c1⟩), decide_eq_true h.n, decide_eq_true (show (b.length : Int) = l.length by rw [h.nb]), allIn_iff.2 h.all]
  rfl
theorem GasOk.vi {w r c : Int} {l : List Int} {b : List Bool} (h : GasOk w r c l b) : Ev (fun k => impl_ValidGas.f k w r c l b) true := by
  have h1 := h.len
  have h2 := h.nb
  exact Ev.cast (gasImpl w r c l b (by omega) (by omega)) h.valid
theorem colI {w r c : Int} {l : List Int} {b : List Bool} (h : GasOk w r c l b) (f : Bool) : Ev (fun k => impl_CollideGas.f k w r c l b f) (w, r, c, collideL w f l b, b, true) := by
  unfold impl_CollideGas.f
  exact Ev.bind h.vi (Ev.pos rfl (Ev.bind (collideImpl h f) (Ev.now _)))
theorem strI {w r c : Int} {l : List Int} {b : List Bool} (h : GasOk w r c l b) : Ev (fun k => impl_StreamGas.f k w r c l b) (w, r, c, streamL w r c l, b, true) := by
  unfold impl_StreamGas.f
  exact Ev.bind h.vi (Ev.pos rfl (Ev.bind (streamImpl h) (Ev.now _)))
/-- All cells turned back. -/
def revL (w : Int) (l : List Int) : List Int := l.map (collideC w true true)
theorem revL_length (w : Int) (l : List Int) : (revL w l).length = l.length := by simp [revL]
theorem revL_ok {w r c : Int} {l : List Int} {b : List Bool} (h : GasOk w r c l b) : GasOk w r c (revL w l) b := by
  have hl := revL_length w l
  refine ⟨h.w0, h.r0, h.r1, h.c0, h.c1, by rw [hl]; exact h.n, by rw [hl]; exact h.nb, fun x hx => ?_⟩
  obtain ⟨y, hy, rfl⟩ := List.mem_map.1 hx
  have := h.all y hy
  exact collideC_in h.w0 this.1 this.2 true true
theorem rd_revL (w : Int) (l : List Int) (q : Nat) (hq : q < l.length) : rd (revL w l) (q : Int) = collideC w true true (rd l (q : Int)) := by
  rw [rd_lt _ q (by rw [revL_length]; exact hq), rd_lt l q hq]
  simp [revL]
theorem rd_collideL (w : Int) (f : Bool) (l : List Int) (b : List Bool) (h : b.length = l.length) (q : Nat) (hq : q < l.length) : rd (collideL w f l b) (q : Int) = collideC w f (b[q]'(by omega)) (rd l (q : Int)) := by
  rw [rd_lt _ q (by rw [collideL_length w f l b h]; exact hq), rd_lt l q hq, collideL_get w f l b h q hq]
theorem revI {w r c : Int} {l : List Int} {b : List Bool} (h : GasOk w r c l b) : Ev (fun k => impl_ReverseGas.f k w r c l b) (w, r, c, revL w l, b, true) := by
  have hlen := h.len
  have hnb := h.nb
  have hL := revL_length w l
  unfold impl_ReverseGas.f impl_Gas_of_impl_ReverseGas_1.f
  refine Ev.bind h.vi (Ev.pos rfl (Ev.bind (a := (w, r, c, revL w l, b)) ?_ (Ev.now _)))
  refine Ev.bnd (a := b) ?_ ?_
  · unfold slices_Clone_bool_bool.f
    simp only [Option.bind_some]
    rw [if_pos (by simp; omega)]
    simp
  · refine Ev.congr (fun k => ?_) (Ev.upto l.length (fun _ => True) (fun i => (revL w l).take i) (w, r, c, revL w l, b) (fun k s i => impl_Gas_of_impl_ReverseGas_1.l0 k l l.length i w r c l b w r c s b) (fun i hi _ ih => ?_) (fun _ => ?_) trivial)
    · simp
    · refine Ev.succ ?_
      simp only [impl_Gas_of_impl_ReverseGas_1.l0]
      have hx := h.all l[i] (List.getElem_mem hi)
      have ih' := ih trivial
      rw [List.take_succ_eq_append_getElem (by omega), show (revL w l)[i]'(by omega) = collideC w true true l[i] by simp [revL]] at ih'
      refine Ev.pos (by omega) (Ev.pos (by omega) (Ev.pos (by omega) (Ev.bind (a := collideC w true true l[i]) ?_ (Ev.pos (by rw [List.length_take]; omega) ?_))))
      · unfold impl_ReverseGas_1.f
        rw [rd_lt l i hi]
        exact Ev.ret (turnedImpl h.w0 hx.1 hx.2 true r c l b)
      · rw [wrap_id (x := (i : Int) + 1) (by omega) (by omega)]
        exact ih'
    · refine Ev.succ ?_
      simp only [impl_Gas_of_impl_ReverseGas_1.l0]
      rw [List.take_of_length_le (by omega)]
      exact Ev.neg (by omega) (Ev.now _)
/-- Streaming, all turned back, streaming, all turned back: nothing has changed. -/
theorem back_stream {w r c : Int} {l : List Int} {b : List Bool} (h : GasOk w r c l b) : revL w (streamL w r c (revL w (streamL w r c l))) = l := by
  have h1 := streamL_ok h
  have h2 := revL_ok h1
  have h3 := streamL_ok h2
  have h4 := revL_ok h3
  have e1 := streamL_length w r c l
  have e2 := revL_length w (streamL w r c l)
  have e3 := streamL_length w r c (revL w (streamL w r c l))
  have e4 := revL_length w (streamL w r c (revL w (streamL w r c l)))
  refine List.ext_getElem (by omega) fun q g1 g2 => ?_
  rw [← rd_lt _ q g1, ← rd_lt _ q g2]
  have a1 := h4.all _ (rd_mem _ (q : Int) (by omega) (by omega))
  have a2 := h.all _ (rd_mem l (q : Int) (by omega) (by omega))
  refine bitOf_ext h.w0 a1.1 a1.2 a2.1 a2.2 fun k hk => ?_
  have ho := opp_ok h.w0 k hk
  rw [rd_revL _ _ q (by omega)]
  have a3 := h3.all _ (rd_mem _ (q : Int) (by omega) (by omega))
  have b1 := (rev_bits h.w0 a3.1 a3.2 true).1 (oppK w k) ho.1
  rw [ho.2.1] at b1
  rw [b1]
  have ht := tgtN_lt h k q
  have b2 := stream_bit h2 (tgtN w r c k q) (oppK w k) (by omega) ho.1
  rw [tgtN_inv h k q hk g2] at b2
  rw [b2, rd_revL _ _ _ (by omega)]
  have a4 := h1.all _ (rd_mem _ ((tgtN w r c k q : Nat) : Int) (by omega) (by omega))
  rw [(rev_bits h.w0 a4.1 a4.2 true).1 k hk]
  exact stream_bit h q k g2 hk
theorem collide_back {w r c : Int} {l : List Int} {b : List Bool} (h : GasOk w r c l b) (f : Bool) : collideL w (!f) (collideL w f l b) b = l := by
  have hn := h.nb
  have e1 := collideL_length w f l b hn
  have e2 := collideL_length w (!f) (collideL w f l b) b (by omega)
  refine List.ext_getElem (by omega) fun q g1 g2 => ?_
  rw [collideL_get w (!f) _ b (by omega) q (by omega), collideL_get w f l b hn q g2]
  have a := h.all l[q] (List.getElem_mem g2)
  have r0 := rev_bits h.w0 a.1 a.2 f
  by_cases g : b[q]'(by omega) = true
  · rw [g]
    have c0 := collideC_in h.w0 a.1 a.2 f true
    rw [(rev_bits h.w0 c0.1 c0.2 (!f)).2.2.2, ← (rev_bits h.w0 c0.1 c0.2 f).2.2.2]
    exact r0.2.1
  · have g' : b[q]'(by omega) = false := by simpa using g
    rw [g']
    exact r0.2.2.1
theorem tot_collide {w r c : Int} {l : List Int} {b : List Bool} (h : GasOk w r c l b) (f : Bool) : totS w (fun _ => 1) (collideL w f l b) l.length = totS w (fun _ => 1) l l.length := by
  refine totS_cells w _ _ _ _ _ fun p hp => ?_
  have a := h.all _ (rd_mem l (p : Int) (by omega) (by omega))
  rw [rd_collideL w f l b h.nb p hp]
  exact (col_sums h.w0 a.1 a.2 f _).1
theorem tot_run {w r c : Int} {l : List Int} {b : List Bool} (h : GasOk w r c l b) (n : Nat) : (runL w r c l b n).length = l.length ∧ totS w (fun _ => 1) (runL w r c l b n) l.length = totS w (fun _ => 1) l l.length := by
  induction n with
  | zero => exact ⟨rfl, rfl⟩
  | succ n ih =>
    have h1 := runL_ok h n
    have h2 := collideL_ok h1 (((n : Int).tmod 2) == 0)
    have e2 := collideL_length w (((n : Int).tmod 2) == 0) (runL w r c l b n) b h1.nb
    have e3 := totS_stream h2 (fun _ => 1)
    have e4 := tot_collide h1 (((n : Int).tmod 2) == 0)
    simp only [runL]
    rw [streamL_length]
    refine ⟨by omega, ?_⟩
    rw [e2, ih.1] at e3
    rw [ih.1] at e4
    rw [e3, e4]
    exact ih.2
/-- No walls. -/
def noW (b : List Bool) : Prop := ∀ x ∈ b, x = false
def way1 (w : Int) (k : Nat) : Int := (wayS w (k : Int)).1
def way2 (w : Int) (k : Nat) : Int := (wayS w (k : Int)).2
theorem mom_collide {w r c : Int} {l : List Int} {b : List Bool} (h : GasOk w r c l b) (hb : noW b) (f : Bool) : totS w (way1 w) (collideL w f l b) l.length = totS w (way1 w) l l.length ∧ totS w (way2 w) (collideL w f l b) l.length = totS w (way2 w) l l.length := by
  have hn := h.nb
  constructor <;> refine totS_cells w _ _ _ _ _ fun p hp => ?_ <;> have a := h.all _ (rd_mem l (p : Int) (by omega) (by omega)) <;> rw [rd_collideL w f l b h.nb p hp, hb _ (List.getElem_mem (show p < b.length by omega))]
  · exact (col_sums h.w0 a.1 a.2 f true).2.1
  · exact (col_sums h.w0 a.1 a.2 f true).2.2.1
theorem mom_run {w r c : Int} {l : List Int} {b : List Bool} (h : GasOk w r c l b) (hb : noW b) (n : Nat) : totS w (way1 w) (runL w r c l b n) l.length = totS w (way1 w) l l.length ∧ totS w (way2 w) (runL w r c l b n) l.length = totS w (way2 w) l l.length := by
  induction n with
  | zero => exact ⟨rfl, rfl⟩
  | succ n ih =>
    have h1 := runL_ok h n
    have h2 := collideL_ok h1 (((n : Int).tmod 2) == 0)
    have e1 := (tot_run h n).1
    have e2 := collideL_length w (((n : Int).tmod 2) == 0) (runL w r c l b n) b h1.nb
    have e3 := totS_stream h2 (way1 w)
    have e5 := totS_stream h2 (way2 w)
    have e4 := mom_collide h1 hb (((n : Int).tmod 2) == 0)
    simp only [runL]
    rw [e2, e1] at e3 e5
    rw [e1] at e4
    rw [e3, e5, e4.1, e4.2]
    exact ih
theorem sum_neg (f : Nat → Int) (n : Nat) : ((List.range n).map fun p => -f p).sum = -((List.range n).map f).sum := by
  induction n with
  | zero => rfl
  | succ n ih => simp only [List.range_succ, List.map_append, List.sum_append, List.map_cons, List.map_nil, List.sum_cons, List.sum_nil]; omega
theorem mom_rev {w r c : Int} {l : List Int} {b : List Bool} (h : GasOk w r c l b) : totS w (way1 w) (revL w l) l.length = -totS w (way1 w) l l.length ∧ totS w (way2 w) (revL w l) l.length = -totS w (way2 w) l l.length := by
  unfold totS
  constructor <;> rw [← sum_neg] <;> refine congrArg List.sum (List.map_congr_left fun p hp => ?_) <;> have hp := List.mem_range.1 hp <;> have a := h.all _ (rd_mem l (p : Int) (by omega) (by omega)) <;> rw [rd_revL _ _ p hp]
  · exact (col_sums h.w0 a.1 a.2 true true).2.2.2.1
  · exact (col_sums h.w0 a.1 a.2 true true).2.2.2.2
theorem ones4 : ∀ x : Fin 16, bits_OnesCount64.f (IntKind.u64.wrap (x.val : Int)) = some (wsum 4 (fun _ => 1) x.val) := by decide +kernel
theorem ones6 : ∀ x : Fin 64, bits_OnesCount64.f (IntKind.u64.wrap (x.val : Int)) = some (wsum 6 (fun _ => 1) x.val) := by decide +kernel
theorem onesW {w x : Int} (hw : w = 4 ∨ w = 6) (h0 : 0 ≤ x) (h1 : x ≤ topOf w) : bits_OnesCount64.f (IntKind.u64.wrap x) = some (wsum w (fun _ => 1) x) := by
  obtain ⟨n, rfl⟩ := Int.eq_ofNat_of_zero_le h0
  rcases hw with rfl | rfl
  · exact ones4 ⟨n, by have : topOf 4 = 15 := rfl; omega⟩
  · exact ones6 ⟨n, by have : topOf 6 = 63 := rfl; omega⟩
theorem cntI {w r c : Int} {l : List Int} {b : List Bool} (h : GasOk w r c l b) : Ev (fun k => impl_CountGas.f k w r c l b) (totS w (fun _ => 1) l l.length, true) := by
  have hlen := h.len
  unfold impl_CountGas.f
  refine Ev.bind h.vi (Ev.pos rfl ?_)
  refine Ev.congr (fun k => ?_) (Ev.upto l.length (fun _ => True) (fun i => totS w (fun _ => 1) l i) (totS w (fun _ => 1) l l.length, true) (fun k s i => impl_CountGas.l0 k s l l.length i) (fun i hi _ ih => ?_) (fun _ => ?_) trivial)
  · rfl
  · refine Ev.succ ?_
    simp only [impl_CountGas.l0]
    have hb1 := totS_bd h (fun _ => 1) (fun _ _ => by omega) (i + 1) (by omega)
    have ih' := ih trivial
    have a := h.all _ (rd_mem l (i : Int) (by omega) (by omega))
    rw [totS_succ] at ih' hb1
    rw [wrap_id (x := (i : Int) + 1) (by omega) (by omega)]
    refine Ev.pos (by omega) (Ev.pos (by omega) (Ev.pos (by omega) (Ev.bnd (onesW h.w0 a.1 a.2) ?_)))
    rw [wrap_id (by omega) (by omega)]
    exact ih'
  · refine Ev.succ ?_
    simp only [impl_CountGas.l0]
    exact Ev.neg (by omega) (Ev.now _)
theorem sameI (w r c : Int) (l : List Int) (b : List Bool) (hl : l.length ≤ 1000) (hb : b.length ≤ 1000) : Ev (fun k => impl_SameGas.f k w r c l b w r c l b) true := by
  unfold impl_SameGas.f
  refine Ev.pos rfl (Ev.pos rfl (Ev.pos rfl (Ev.bind (slicesEqual l l (by omega)) (Ev.pos (by simp) ?_))))
  exact Ev.cast (Ev.ret (slicesEqualB b b (by omega))) (by simp)

/-- The counts of the blocks behind n cells. -/
def denL (w : Int) (C : Nat) (l : List Int) (m : Nat) : Nat → List Int
  | 0 => List.replicate m 0
  | n + 1 => (denL w C l m n).set (n / C / 2) (rd (denL w C l m n) ((n / C / 2 : Nat) : Int) + wsum w (fun _ => 1) (rd l (n : Int)))
theorem denL_length (w : Int) (C : Nat) (l : List Int) (m n : Nat) : (denL w C l m n).length = m := by
  induction n with
  | zero => simp [denL]
  | succ n ih => simp only [denL]; rw [List.length_set, ih]
theorem sum_set (L : List Int) (v : Int) : ∀ (i : Nat) (hi : i < L.length), (L.set i v).sum = L.sum - L[i] + v := by
  induction L with
  | nil => intro i hi; simp at hi
  | cons x L ih =>
    intro i hi
    cases i with
    | zero => simp only [List.set_cons_zero, List.sum_cons, List.getElem_cons_zero]; omega
    | succ i =>
      have := ih i (by simpa using hi)
      simp only [List.set_cons_succ, List.sum_cons, List.getElem_cons_succ]
      omega
theorem sum_replicate (m : Nat) : (List.replicate m (0 : Int)).sum = 0 := by
  induction m with
  | zero => rfl
  | succ m ih => rw [List.replicate_succ, List.sum_cons, ih]; rfl
theorem den_at {w : Int} {C m : Nat} {l : List Int} {b : List Bool} (h : GasOk w ((2 * m : Nat) : Int) (C : Int) l b) (n : Nat) (hn : n < l.length) : n / C / 2 < m := by
  have h1 := h.n
  have h2 : l.length = 2 * m * C := by exact_mod_cast h1
  have h3 : n / C < 2 * m := Nat.div_lt_of_lt_mul (by rw [Nat.mul_comm]; omega)
  omega
theorem denL_ok {w : Int} {C m : Nat} {l : List Int} {b : List Bool} (h : GasOk w ((2 * m : Nat) : Int) (C : Int) l b) (n : Nat) (hn : n ≤ l.length) : (denL w C l m n).sum = totS w (fun _ => 1) l n ∧ ∀ y ∈ denL w C l m n, -(6 * n) ≤ y ∧ y ≤ 6 * n := by
  induction n with
  | zero =>
    refine ⟨sum_replicate m, fun y hy => ?_⟩
    simp only [denL, List.mem_replicate] at hy
    omega
  | succ n ih =>
    have ih' := ih (by omega)
    have hi := den_at h n (by omega)
    have hl := denL_length w C l m n
    have a := h.all _ (rd_mem l (n : Int) (by omega) (by omega))
    have hw := wsum_bd h.w0 (fun _ => 1) (fun _ _ => by omega) a.1 a.2
    simp only [denL]
    obtain ⟨q, hq⟩ : ∃ q, q = n / C / 2 := ⟨_, rfl⟩
    rw [← hq] at hi ⊢
    clear hq
    have hx := ih'.2 _ (rd_mem (denL w C l m n) (q : Int) (by omega) (by omega))
    constructor
    · rw [sum_set _ _ _ (by omega), ih'.1, totS_succ, rd_lt _ _ (by omega)]
      omega
    · intro y hy
      rcases List.mem_or_eq_of_mem_set hy with g | g
      · have := ih'.2 y g
        omega
      · omega
theorem denI {w : Int} {C m : Nat} {l : List Int} {b : List Bool} (h : GasOk w ((2 * m : Nat) : Int) (C : Int) l b) : Ev (fun k => impl_DenseBlocks.f k w ((2 * m : Nat) : Int) (C : Int) l b 2 (C : Int)) (denL w C l m l.length, true) := by
  have hlen := h.len
  have r0 := h.r0; have r1 := h.r1; have c0 := h.c0; have c1 := h.c1
  have e1 : wrap64 (Int.tdiv ((2 * m : Nat) : Int) 2) = (m : Int) := by
    rw [show Int.tdiv ((2 * m : Nat) : Int) 2 = ((2 * m / 2 : Nat) : Int) from rfl, show 2 * m / 2 = m by omega]
    exact wrap_id (by omega) (by omega)
  have e2 : wrap64 (Int.tdiv (C : Int) (C : Int)) = 1 := by
    rw [Int.tdiv_self (by omega)]; exact wrap_id (by omega) (by omega)
  have e3 : Int.tmod ((2 * m : Nat) : Int) 2 = 0 := by
    rw [show Int.tmod ((2 * m : Nat) : Int) 2 = ((2 * m % 2 : Nat) : Int) from rfl, show 2 * m % 2 = 0 by omega]; rfl
  have e4 : wrap64 ((m : Int) * 1) = (m : Int) := by rw [Int.mul_one]; exact wrap_id (by omega) (by omega)
  unfold impl_DenseBlocks.f
  refine Ev.bind h.vi (Ev.pos rfl (Ev.bnd (within _ _ _) (Ev.pos (by simp; omega) (Ev.bnd (within _ _ _) (Ev.pos (by simp; omega) (Ev.neg (by omega) (Ev.pos e3 (Ev.neg (by omega) (Ev.succ ?_)))))))))
  simp only [impl_DenseBlocks.j0]
  rw [e1, e2, e4]
  refine Ev.neg (by rw [Int.tmod_self]; decide) (Ev.neg (by omega) (Ev.neg (by omega) (Ev.pos (by omega) (Ev.pos (by omega) ?_))))
  rw [Int.toNat_natCast]
  refine Ev.upto l.length (fun _ => True) (fun i => denL w C l m i) (denL w C l m l.length, true) (fun k s i => impl_DenseBlocks.l0 k 2 (C : Int) 1 s l l.length i w ((2 * m : Nat) : Int) (C : Int) l b) (fun i hi _ ih => ?_) (fun _ => ?_) trivial
  · refine Ev.succ ?_
    simp only [impl_DenseBlocks.l0]
    have ih' := ih trivial
    simp only [denL] at ih'
    have hd := den_at h i hi
    have hl := denL_length w C l m i
    have ho := denL_ok h i (by omega)
    have a := h.all _ (rd_mem l (i : Int) (by omega) (by omega))
    have hw := wsum_bd h.w0 (fun _ => 1) (fun _ _ => by omega) a.1 a.2
    have d1 : i / C ≤ i := Nat.div_le_self _ _
    have d2 : i % C / C = 0 := Nat.div_eq_of_lt (Nat.mod_lt _ (by omega))
    have d3 : ∀ n : Nat, n ≤ 1000 → wrap64 (n : Int) = (n : Int) := fun n hn => wrap_id (by omega) (by omega)
    have f1 : wrap64 (Int.tdiv (i : Int) (C : Int)) = ((i / C : Nat) : Int) := d3 _ (Nat.le_trans d1 (by omega))
    have d4 : i / C / 2 ≤ i := Nat.le_trans (Nat.div_le_self _ _) d1
    have f2 : wrap64 (Int.tdiv ((i / C : Nat) : Int) 2) = ((i / C / 2 : Nat) : Int) := d3 _ (Nat.le_trans d4 (by omega))
    have f3 : wrap64 (Int.tdiv (Int.tmod (i : Int) (C : Int)) (C : Int)) = 0 := by
      rw [show Int.tdiv (Int.tmod (i : Int) (C : Int)) (C : Int) = ((i % C / C : Nat) : Int) from rfl, d2]; exact wrap_id (by omega) (by omega)
    have f4 : wrap64 (wrap64 (((i / C / 2 : Nat) : Int) * 1) + 0) = ((i / C / 2 : Nat) : Int) := by
      rw [Int.mul_one, Int.add_zero, d3 _ (Nat.le_trans d4 (by omega))]; exact d3 _ (Nat.le_trans d4 (by omega))
    rw [f1, f2, f3, f4, wrap_id (x := (i : Int) + 1) (by omega) (by omega), Int.toNat_natCast]
    clear f1 f2 f3 f4 d1 d2 d3 d4 e1 e2 e3 e4
    obtain ⟨q, hq⟩ : ∃ q, q = i / C / 2 := ⟨_, rfl⟩
    rw [← hq] at hd ih' ⊢
    clear hq
    have hx := ho.2 _ (rd_mem (denL w C l m i) (q : Int) (by omega) (by omega))
    refine Ev.pos (by omega) (Ev.pos (by omega) (Ev.pos (by omega) (Ev.neg (by omega) (Ev.neg (by omega) (Ev.neg (by omega) (Ev.pos (by omega) (Ev.pos (by omega) (Ev.bnd (onesW h.w0 a.1 a.2) ?_))))))))
    rw [wrap_id (x := rd (denL w C l m i) (q : Int) + wsum w (fun _ => 1) (rd l (i : Int))) (by omega) (by omega)]
    exact ih'
  · refine Ev.succ ?_
    simp only [impl_DenseBlocks.l0]
    exact Ev.neg (by omega) (Ev.now _)
/-- A part of a cell's weight. -/
def wpre (G : Nat → Int) (x : Int) (K : Nat) : Int := ((List.range K).map fun k => bitOf x k * G k).sum
theorem wpre_succ (G : Nat → Int) (x : Int) (K : Nat) : wpre G x (K + 1) = wpre G x K + bitOf x K * G K := by
  unfold wpre
  simp only [List.range_succ, List.map_append, List.sum_append, List.map_cons, List.map_nil, List.sum_cons, List.sum_nil]
  omega
theorem wpre_bd {w x : Int} (hw : w = 4 ∨ w = 6) (G : Nat → Int) (hG : ∀ k : Nat, (k : Int) < w → -1 ≤ G k ∧ G k ≤ 1) (h0 : 0 ≤ x) (h1 : x ≤ topOf w) (K : Nat) (hK : (K : Int) ≤ w) : -6 ≤ wpre G x K ∧ wpre G x K ≤ 6 := by
  have := sum_bd (fun k => bitOf x k * G k) 1 K (fun k hk => by
    have g := hG k (by omega)
    rcases bitOf_01 hw h0 h1 k (by omega) with e | e
    · simp only [e]; omega
    · simp only [e]; omega)
  unfold wpre
  omega
theorem bit_mul {w x : Int} (hw : w = 4 ∨ w = 6) (h0 : 0 ≤ x) (h1 : x ≤ topOf w) (k : Nat) (hk : (k : Int) < w) (g : Int) (g0 : -1 ≤ g) (g1 : g ≤ 1) : -1 ≤ bitOf x k * g ∧ bitOf x k * g ≤ 1 := by
  rcases bitOf_01 hw h0 h1 k hk with e | e
  · rw [e]; omega
  · rw [e]; omega
theorem wayI {w r c : Int} {l : List Int} {b : List Bool} (h : GasOk w r c l b) : Ev (fun k => impl_WayOfGas.f k w r c l b) (totS w (way1 w) l l.length, totS w (way2 w) l l.length, true) := by
  have hlen := h.len
  have hw := h.w0
  have G1 : ∀ k : Nat, (k : Int) < w → -1 ≤ way1 w k ∧ way1 w k ≤ 1 := fun k hk => by have := way_small hw k hk; exact ⟨this.1, this.2.1⟩
  have G2 : ∀ k : Nat, (k : Int) < w → -1 ≤ way2 w k ∧ way2 w k ≤ 1 := fun k hk => by have := way_small hw k hk; exact ⟨this.2.2.1, this.2.2.2⟩
  have ew : ((w.toNat : Nat) : Int) = w := by omega
  unfold impl_WayOfGas.f
  refine Ev.bind h.vi (Ev.pos rfl ?_)
  refine Ev.congr (fun k => ?_) (Ev.upto l.length (fun _ => True) (fun i => (totS w (way1 w) l i, totS w (way2 w) l i)) (totS w (way1 w) l l.length, totS w (way2 w) l l.length, true) (fun k s i => impl_WayOfGas.l0 k s.1 s.2 l l.length i w r c l b) (fun i hi _ ih => ?_) (fun _ => ?_) trivial)
  · rfl
  · refine Ev.succ ?_
    simp only [impl_WayOfGas.l0]
    have ih' := ih trivial
    have t1 := totS_bd h (way1 w) G1 i (by omega)
    have t2 := totS_bd h (way2 w) G2 i (by omega)
    have a := h.all _ (rd_mem l (i : Int) (by omega) (by omega))
    simp only [totS_succ] at ih'
    refine Ev.pos (by omega) (Ev.pos (by omega) (Ev.pos (by omega) ?_))
    refine Ev.congr (fun k => ?_) (Ev.upto w.toNat (fun _ => True) (fun K => (totS w (way1 w) l i + wpre (way1 w) (rd l (i : Int)) K, totS w (way2 w) l i + wpre (way2 w) (rd l (i : Int)) K)) (totS w (way1 w) l l.length, totS w (way2 w) l l.length, true) (fun k s x => impl_WayOfGas.l1 k s.1 s.2 (rd l (i : Int)) l l.length i w x w r c l b) (fun K hK _ ihK => ?_) (fun _ => ?_) trivial)
    · show _ = impl_WayOfGas.l1 k (totS w (way1 w) l i + 0) (totS w (way2 w) l i + 0) _ _ _ _ _ 0 _ _ _ _ _
      rw [Int.add_zero, Int.add_zero]
    · refine Ev.succ ?_
      simp only [impl_WayOfGas.l1]
      have ihK' := ihK trivial
      simp only [wpre_succ] at ihK'
      have ww := wayW hw K (by omega) r c l b
      have p1 := wpre_bd hw (way1 w) G1 a.1 a.2 K (by omega)
      have p2 := wpre_bd hw (way2 w) G2 a.1 a.2 K (by omega)
      have g1 := G1 K (by omega)
      have g2 := G2 K (by omega)
      have q1 := bit_mul hw a.1 a.2 K (by omega) (way1 w K) g1.1 g1.2
      have q2 := bit_mul hw a.1 a.2 K (by omega) (way2 w K) g2.1 g2.2
      refine Ev.pos (by omega) (Ev.bnd ww.2.1 (Ev.pos (by omega) ?_))
      rw [wrap_id (x := (K : Int) + 1) (by omega) (by omega)]
      show Ev (fun k => impl_WayOfGas.l1 k (wrap64 (totS w (way1 w) l i + wpre (way1 w) (rd l (i : Int)) K + wrap64 (bitOf (rd l (i : Int)) K * way1 w K))) (wrap64 (totS w (way2 w) l i + wpre (way2 w) (rd l (i : Int)) K + wrap64 (bitOf (rd l (i : Int)) K * way2 w K))) (rd l (i : Int)) l l.length i w ((K : Int) + 1) w r c l b) _
      rw [wrap_id (x := bitOf (rd l (i : Int)) K * way1 w K) (by omega) (by omega), wrap_id (x := bitOf (rd l (i : Int)) K * way2 w K) (by omega) (by omega), wrap_id (x := totS w (way1 w) l i + wpre (way1 w) (rd l (i : Int)) K + bitOf (rd l (i : Int)) K * way1 w K) (by omega) (by omega), wrap_id (x := totS w (way2 w) l i + wpre (way2 w) (rd l (i : Int)) K + bitOf (rd l (i : Int)) K * way2 w K) (by omega) (by omega), Int.add_assoc, Int.add_assoc]
      exact ihK'
    · refine Ev.succ ?_
      simp only [impl_WayOfGas.l1]
      rw [wrap_id (x := (i : Int) + 1) (by omega) (by omega)]
      exact Ev.neg (by omega) ih'
  · refine Ev.succ ?_
    simp only [impl_WayOfGas.l0]
    exact Ev.neg (by omega) (Ev.now _)

theorem r8At (l : List Int) (hb : Bytes l) (i n : Int) (hi : 0 ≤ i) (hn : 1 ≤ n) (hn2 : n ≤ 1000) : ∃ x, laws_r8At.f l i n = some x ∧ 0 ≤ x ∧ x < n := by
  unfold laws_r8At.f
  by_cases c : n ≤ 1
  · rw [if_pos c]; exact ⟨_, rfl, by omega, by omega⟩
  · rw [if_neg c]
    by_cases h : i ≥ (l.length : Int)
    · rw [if_pos h]; exact ⟨_, rfl, by omega, by omega⟩
    · have hx := hb _ (rd_mem l i hi (by omega))
      rw [if_neg h, if_pos hi, if_pos (by omega), if_neg (by omega), wrap_id (x := rd l i) (by omega) (by omega), Int.tmod_eq_emod_of_nonneg (by omega)]
      exact ⟨_, rfl, Int.emod_nonneg _ (by omega), Int.emod_lt_of_pos _ (by omega)⟩
theorem r8Long (l m : List Int) : laws_r8Long.f l m = some (decide ((48 : Int) < l.length) || decide ((48 : Int) < m.length)) := by
  unfold laws_r8Long.f
  by_cases h : (48 : Int) < l.length
  · rw [if_pos h, decide_eq_true h]; rfl
  · rw [if_neg h, decide_eq_false h]; rfl
theorem srcOne (l : List Int) (hb : Bytes l) (hl : l.length ≤ 140737488351232) (at_ seed : Int) (h0 : 0 ≤ at_) (h1 : at_ ≤ 100000000000000) (n : Int) (hn : 1 ≤ n) (hm : n ≤ 200) : ∃ x a s, spec_l00Src_one.f l at_ seed n = some (x, a, s) ∧ 0 ≤ a ∧ a ≤ at_ + 1 := by
  obtain ⟨x, a, s, e, _, _, ha, hb'⟩ := srcPick l hb hl at_ seed h0 h1 n hn hm
  unfold spec_l00Src_one.f
  rw [e]
  exact ⟨_, _, _, rfl, ha, hb'⟩
theorem srcAmong8 (l : List Int) (hb : Bytes l) (hl : l.length ≤ 140737488351232) (at_ seed : Int) (h0 : 0 ≤ at_) (h1 : at_ ≤ 100000000000000) : ∃ x a s, spec_l00Src_among.f l at_ seed ([0, 5, 10, 9, 18, 36, 21, 42] : List Int) = some (x, a, s) ∧ 0 ≤ x ∧ x ≤ 42 ∧ 0 ≤ a ∧ a ≤ at_ + 1 := by
  obtain ⟨x, a, s, e, hx0, hx1, ha, hb'⟩ := srcPick l hb hl at_ seed h0 h1 8 (by omega) (by omega)
  unfold spec_l00Src_among.f
  have e' : spec_l00Src_pick.f l at_ seed ((([0, 5, 10, 9, 18, 36, 21, 42] : List Int).length : Nat) : Int) = some (x, a, s) := e
  have hx2 : x < ((([0, 5, 10, 9, 18, 36, 21, 42] : List Int).length : Nat) : Int) := hx1
  rw [e']
  simp only [Option.bind_some]
  rw [if_pos hx0, if_pos hx2]
  have ht : ∀ y ∈ ([0, 5, 10, 9, 18, 36, 21, 42] : List Int), 0 ≤ y ∧ y ≤ 42 := by decide
  have hm := ht _ (rd_mem _ x hx0 hx2)
  exact ⟨_, _, _, rfl, hm.1, hm.2, ha, hb'⟩
theorem drawGas (l : List Int) (hb : Bytes l) (hl : l.length ≤ 140737488351232) (w r c : Int) (hw : w = 4 ∨ w = 6) : ∀ (d : Nat) (at_ s : Int) (acc : List Int) (bcc : List Bool), 0 ≤ at_ → at_ + 4 * d ≤ 1000000 → acc.length + d ≤ 1000 → bcc.length = acc.length → (∀ x ∈ acc, 0 ≤ x ∧ x ≤ topOf w) →
    ∃ xs bs a t, Ev (fun k => spec_l06DrawSides.l0 k w d l at_ s w r c acc bcc) (w, r, c, xs, bs, a, t) ∧ xs.length = acc.length + d ∧ bs.length = xs.length ∧ ∀ x ∈ xs, 0 ≤ x ∧ x ≤ topOf w := by
  have ht : topOf w = 15 ∨ topOf w = 63 := by
    rcases hw with rfl | rfl
    · exact Or.inl rfl
    · exact Or.inr rfl
  have hs : shl .i64 1 (IntKind.u64.wrap w) = topOf w + 1 := by rcases hw with rfl | rfl <;> decide +kernel
  have hu : 0 ≤ IntKind.u64.wrap w := by rcases hw with rfl | rfl <;> decide +kernel
  intro d
  induction d with
  | zero =>
    intro at_ s acc bcc h0 h1 h2 h3 h4
    refine ⟨acc, bcc, at_, s, Ev.succ ?_, rfl, h3, h4⟩
    simp only [spec_l06DrawSides.l0]
    exact Ev.neg (by simp) (Ev.now _)
  | succ d ih =>
    intro at_ s acc bcc h0 h1 h2 h3 h4
    obtain ⟨x, a1, s1, e1, hx0, hx1, ha1, ha1'⟩ := srcPick l hb hl at_ s h0 (by omega) (topOf w + 1) (by omega) (by omega)
    obtain ⟨y, a2, s2, e2, ha2, ha2'⟩ := srcOne l hb hl a1 s1 ha1 (by omega) 3 (by omega) (by omega)
    have ed : wrap64 (((d + 1 : Nat) : Int) - 1) = (d : Int) := by
      rw [show ((d + 1 : Nat) : Int) - 1 = (d : Int) by omega]; exact wrap_id (by omega) (by omega)
    by_cases g : y = true
    · obtain ⟨z, a3, s3, e3, hz0, hz1, ha3, ha3'⟩ := srcAmong8 l hb hl a2 s2 ha2 (by omega)
      obtain ⟨u, a4, s4, e4, ha4, ha4'⟩ := srcOne l hb hl a3 s3 ha3 (by omega) 8 (by omega) (by omega)
      have hm0 : 0 ≤ Int.tmod z (topOf w + 1) := by rw [Int.tmod_eq_emod_of_nonneg hz0]; exact Int.emod_nonneg _ (by omega)
      have hm1 : Int.tmod z (topOf w + 1) ≤ topOf w := by
        rw [Int.tmod_eq_emod_of_nonneg hz0]
        have := Int.emod_lt_of_pos z (show 0 < topOf w + 1 by omega)
        omega
      obtain ⟨xs, bs, a5, t5, h, hxl, hbl, hxs⟩ := ih a4 s4 (acc ++ [Int.tmod z (topOf w + 1)]) (bcc ++ [u]) ha4 (by omega) (by rw [List.length_append, List.length_singleton]; omega) (by simp [h3]) (fun v hv => by
        rcases List.mem_append.1 hv with q | q
        · exact h4 v q
        · rw [List.mem_singleton.1 q]; exact ⟨hm0, hm1⟩)
      refine ⟨xs, bs, a5, t5, Ev.succ ?_, by rw [hxl, List.length_append, List.length_singleton]; omega, hbl, hxs⟩
      simp only [spec_l06DrawSides.l0]
      rw [hs, ed]
      exact Ev.pos (by omega) (Ev.pos hu (Ev.bnd e1 (Ev.bnd e2 (Ev.pos g (Ev.bnd e3 (Ev.neg (by omega) (Ev.pos (by omega) (Ev.bnd e4 (Ev.pos (by omega) h)))))))))
    · obtain ⟨u, a4, s4, e4, ha4, ha4'⟩ := srcOne l hb hl a2 s2 ha2 (by omega) 8 (by omega) (by omega)
      obtain ⟨xs, bs, a5, t5, h, hxl, hbl, hxs⟩ := ih a4 s4 (acc ++ [x]) (bcc ++ [u]) ha4 (by omega) (by rw [List.length_append, List.length_singleton]; omega) (by simp [h3]) (fun v hv => by
        rcases List.mem_append.1 hv with q | q
        · exact h4 v q
        · rw [List.mem_singleton.1 q]; exact ⟨hx0, by omega⟩)
      refine ⟨xs, bs, a5, t5, Ev.succ ?_, by rw [hxl, List.length_append, List.length_singleton]; omega, hbl, hxs⟩
      simp only [spec_l06DrawSides.l0]
      rw [hs, ed]
      exact Ev.pos (by omega) (Ev.pos hu (Ev.bnd e1 (Ev.bnd e2 (Ev.neg g (Ev.pos (by omega) (Ev.bnd e4 (Ev.pos (by omega) h)))))))
/-- A drawn gas. -/
theorem r8Gas (l : List Int) (hb : Bytes l) (hl : l.length ≤ 140737488351232) (w : Int) (R C : Nat) (hw : w = 4 ∨ w = 6) (r0 : 1 ≤ R) (r1 : R ≤ 16) (c0 : 1 ≤ C) (c1 : C ≤ 16) : ∃ xs bs, Ev (fun k => spec_R8Gas.f k l w (R : Int) (C : Int)) (w, (R : Int), (C : Int), xs, bs) ∧ GasOk w (R : Int) (C : Int) xs bs := by
  have hm : R * C ≤ 16 * 16 := Nat.mul_le_mul r1 c1
  obtain ⟨xs, bs, a, t, h, h1, h2, h3⟩ := drawGas l hb hl w (R : Int) (C : Int) hw (R * C) 0 0 [] [] (by omega) (by omega) (by simp only [List.length_nil]; omega) rfl (fun x hx => by simp at hx)
  refine ⟨xs, bs, ?_, hw, by omega, by omega, by omega, by omega, by rw [h1, List.length_nil, Nat.zero_add, Int.natCast_mul], h2, h3⟩
  unfold spec_R8Gas.f spec_l00From.f spec_l06DrawSides.f
  rw [← Int.natCast_mul, wrap_id (by omega) (by omega)]
  exact Ev.bnd rfl (Ev.bind h (Ev.now _))
theorem sum_rd (L : List Int) : ((List.range L.length).map fun (p : Nat) => rd L (p : Int)).sum = L.sum := by
  refine congrArg List.sum (List.ext_getElem (by simp) fun i h1 h2 => ?_)
  simp only [List.getElem_map, List.getElem_range]
  exact rd_lt L i h2
theorem runI {w r c : Int} {l : List Int} {b : List Bool} (h : GasOk w r c l b) (n : Int) (h0 : 0 ≤ n) (h1 : n ≤ 512) : Ev (fun k => impl_RunGas.f k w r c l b n) (w, r, c, runL w r c l b n.toNat, b, true) := by
  have h2 := h.len
  have h3 := h.nb
  exact Ev.cast (runGasImpl w r c l b n (by omega) (by omega)) (runGas_yes ⟨h.valid, h0, h1⟩)
theorem lastGas {w : Int} {m C : Nat} {l : List Int} {b : List Bool} (h : GasOk w ((2 * m : Nat) : Int) (C : Int) l b) (n : Int) (h0 : 0 ≤ n) (h1 : n ≤ 512) : Ev (fun k => laws_FnGases.l0 k w (totS w (fun _ => 1) l l.length) n (denL w C l m l.length) 0 0 w ((2 * m : Nat) : Int) (C : Int) l b) true := by
  have hlen := h.len
  have hnb := h.nb
  have r1 := h.r1
  have hL := denL_length w C l m l.length
  have hO := denL_ok h l.length (by omega)
  have hbd : ∀ p, p < (denL w C l m l.length).length → -1600 ≤ rd (denL w C l m l.length) (p : Nat) ∧ rd (denL w C l m l.length) (p : Nat) ≤ 1600 := fun p hp => by
    have := hO.2 _ (rd_mem (denL w C l m l.length) (p : Int) (by omega) (by omega))
    omega
  refine Ev.congr (fun k => ?_) (Ev.upto (denL w C l m l.length).length (fun _ => True) (fun i => ((List.range i).map fun (p : Nat) => rd (denL w C l m l.length) (p : Int)).sum) true (fun k s i => laws_FnGases.l0 k w (totS w (fun _ => 1) l l.length) n (denL w C l m l.length) s i w ((2 * m : Nat) : Int) (C : Int) l b) (fun i hi _ ih => ?_) (fun _ => ?_) trivial)
  · rfl
  · refine Ev.succ ?_
    simp only [laws_FnGases.l0]
    have ih' := ih trivial
    have b1 := sum_bd (fun (p : Nat) => rd (denL w C l m l.length) (p : Int)) 1600 i (fun p hp => hbd p (by omega))
    have b2 := hbd i hi
    simp only [List.range_succ, List.map_append, List.sum_append, List.map_cons, List.map_nil, List.sum_cons, List.sum_nil, Int.add_zero] at ih'
    rw [wrap_id (x := (i : Int) + 1) (by omega) (by omega)]
    refine Ev.pos (by omega) (Ev.pos (by omega) ?_)
    rw [wrap_id (by omega) (by omega)]
    exact ih'
  · refine Ev.succ ?_
    simp only [laws_FnGases.l0]
    rw [sum_rd, hO.1]
    refine Ev.neg (by omega) (Ev.pos (by omega) (Ev.pos (by omega) (Ev.bnd rfl ?_)))
    rw [Int.toNat_natCast]
    have hN : noW (List.replicate b.length false) := fun x hx => (List.mem_replicate.1 hx).2
    have g : GasOk w ((2 * m : Nat) : Int) (C : Int) l (List.replicate b.length false) := ⟨h.w0, h.r0, h.r1, h.c0, h.c1, h.n, by rw [List.length_replicate]; exact hnb, h.all⟩
    generalize List.replicate b.length false = v at hN g ⊢
    have gr := runL_ok g n.toNat
    have gv := revL_ok g
    have gc := collideL_ok g true
    have er := tot_run g n.toNat
    have em := mom_run g hN n.toNat
    have ev := mom_rev g
    have G1 : ∀ k : Nat, (k : Int) < w → -1 ≤ way1 w k ∧ way1 w k ≤ 1 := fun k hk => by have := way_small g.w0 k hk; exact ⟨this.1, this.2.1⟩
    have G2 : ∀ k : Nat, (k : Int) < w → -1 ≤ way2 w k ∧ way2 w k ≤ 1 := fun k hk => by have := way_small g.w0 k hk; exact ⟨this.2.2.1, this.2.2.2⟩
    have t1 := totS_bd g (way1 w) G1 l.length (by omega)
    have t2 := totS_bd g (way2 w) G2 l.length (by omega)
    refine Ev.bind (wayI g) (Ev.bind (runI g n h0 h1) (Ev.bind (wayI gr) (Ev.bind (revI g) (Ev.bind (wayI gv) (Ev.bind (runI g 1 (by omega) (by omega)) (Ev.bind (colI g true) (Ev.bind (strI gc) (Ev.pos rfl (Ev.pos rfl (Ev.pos rfl (Ev.pos rfl (Ev.pos rfl (Ev.pos rfl (Ev.pos rfl (Ev.pos rfl (Ev.pos rfl (Ev.pos ?_ (Ev.pos ?_ (Ev.pos ?_ (Ev.pos ?_ ?_))))))))))))))))))))
    · show totS w (way1 w) (runL w ((2 * m : Nat) : Int) C l v n.toNat) (runL w ((2 * m : Nat) : Int) C l v n.toNat).length = totS w (way1 w) l l.length
      rw [er.1]; exact em.1
    · show totS w (way2 w) (runL w ((2 * m : Nat) : Int) C l v n.toNat) (runL w ((2 * m : Nat) : Int) C l v n.toNat).length = totS w (way2 w) l l.length
      rw [er.1]; exact em.2
    · show totS w (way1 w) (revL w l) (revL w l).length = wrap64 (-totS w (way1 w) l l.length)
      rw [revL_length, ev.1, wrap_id (by omega) (by omega)]
    · show totS w (way2 w) (revL w l) (revL w l).length = wrap64 (-totS w (way2 w) l l.length)
      rw [revL_length, ev.2, wrap_id (by omega) (by omega)]
    · have hs := streamL_length w ((2 * m : Nat) : Int) (C : Int) (collideL w true l v)
      have hc := collideL_length w true l v g.nb
      have hv := g.nb
      exact Ev.ret (sameI w ((2 * m : Nat) : Int) (C : Int) (streamL w ((2 * m : Nat) : Int) C (collideL w true l v)) v (by omega) (by omega))
theorem FnGases : laws_FnGases.Pure := by
  intro la lb _ ha hwa _ hb hwb
  have hA := Bytes.of hwa
  have hB := Bytes.of hwb
  refine Ev.rounds ?_
  unfold laws_FnGases.f
  refine Ev.bnd (r8Long la lb) ?_
  by_cases g : (decide ((48 : Int) < la.length) || decide ((48 : Int) < lb.length)) = true
  · exact Ev.pos g (Ev.now _)
  · refine Ev.neg g ?_
    obtain ⟨x, ex, hx0, hx1⟩ := r8At lb hB 40 2 (by omega) (by omega) (by omega)
    obtain ⟨y, ey, hy0, hy1⟩ := r8At lb hB 41 3 (by omega) (by omega) (by omega)
    obtain ⟨z, ez, hz0, hz1⟩ := r8At lb hB 42 3 (by omega) (by omega) (by omega)
    obtain ⟨f, ef, hf0, hf1⟩ := r8At lb hB 43 2 (by omega) (by omega) (by omega)
    obtain ⟨n, en, hn0, hn1⟩ := r8At lb hB 44 12 (by omega) (by omega) (by omega)
    refine Ev.bnd ex (Ev.bnd ey (Ev.bnd ez ?_))
    rw [wrap_id (x := 2 * x) (by omega) (by omega), wrap_id (x := 1 + y) (by omega) (by omega), wrap_id (x := 1 + z) (by omega) (by omega), wrap_id (x := 4 + 2 * x) (by omega) (by omega), wrap_id (x := 2 * (1 + y)) (by omega) (by omega), wrap_id (x := 2 * (1 + z)) (by omega) (by omega)]
    obtain ⟨m, hm⟩ := Int.eq_ofNat_of_zero_le (show 0 ≤ 1 + y by omega)
    obtain ⟨q, hq⟩ := Int.eq_ofNat_of_zero_le (show 0 ≤ 1 + z by omega)
    rw [hm, hq, show (2 * (m : Int)) = ((2 * m : Nat) : Int) from rfl, show (2 * (q : Int)) = ((2 * q : Nat) : Int) from rfl]
    have hw : 4 + 2 * x = 4 ∨ 4 + 2 * x = 6 := by omega
    generalize 4 + 2 * x = w at hw ⊢
    obtain ⟨C, hC⟩ : ∃ C, C = 2 * q := ⟨_, rfl⟩
    rw [← hC]
    obtain ⟨l, b, hd, h⟩ := r8Gas la hA (by omega) w (2 * m) C hw (by omega) (by omega) (by omega) (by omega)
    have hlen := h.len
    have hnb := h.nb
    refine Ev.bind hd (Ev.bnd ef ?_)
    generalize (f == 1) = F
    have h1 := collideL_ok h F
    have h2 := streamL_ok h1
    have h3 := revL_ok h2
    have h4 := streamL_ok h3
    have h5 := revL_ok h4
    have e5 := back_stream h1
    have l1 := collideL_length w F l b h.nb
    have l2 := streamL_length w ((2 * m : Nat) : Int) (C : Int) (collideL w F l b)
    have ec : totS w (fun _ => 1) (streamL w ((2 * m : Nat) : Int) C (collideL w F l b)) (streamL w ((2 * m : Nat) : Int) C (collideL w F l b)).length = totS w (fun _ => 1) l l.length := by
      rw [l2, totS_stream h1, l1, tot_collide h F]
    refine Ev.bind (colI h F) (Ev.bind (strI h1) (Ev.bind (revI h2) (Ev.bind (strI h3) (Ev.bind (revI h4) (Ev.bind (colI h5 (!F)) (Ev.bind (cntI h) (Ev.bind (cntI h2) (Ev.pos rfl (Ev.pos rfl (Ev.pos rfl (Ev.pos rfl (Ev.pos rfl (Ev.pos rfl (Ev.pos rfl (Ev.pos rfl (Ev.bind h.vi (Ev.pos rfl (Ev.bind h2.vi (Ev.pos rfl (Ev.bind (a := true) ?_ (Ev.pos rfl (Ev.succ ?_))))))))))))))))))))))
    · show Ev (fun k => impl_SameGas.f k w ((2 * m : Nat) : Int) C (collideL w (!F) (revL w (streamL w ((2 * m : Nat) : Int) C (revL w (streamL w ((2 * m : Nat) : Int) C (collideL w F l b))))) b) b w ((2 * m : Nat) : Int) C l b) true
      rw [e5, collide_back h F]
      exact sameI w ((2 * m : Nat) : Int) (C : Int) l b (by omega) (by omega)
    · simp only [laws_FnGases.j0]
      have gr := runL_ok h n.toNat
      have er := tot_run h n.toNat
      refine Ev.neg (by rw [ec]; simp) (Ev.bnd en (Ev.bind (runI h n hn0 (by omega)) (Ev.bind (cntI gr) (Ev.bind (denI h) (Ev.pos rfl (Ev.pos rfl (Ev.pos rfl (Ev.pos ?_ (Ev.succ ?_)))))))))
      · show totS w (fun _ => 1) (runL w ((2 * m : Nat) : Int) C l b n.toNat) (runL w ((2 * m : Nat) : Int) C l b n.toNat).length = totS w (fun _ => 1) l l.length
        rw [er.1, er.2]
      · simp only [laws_FnGases.j1]
        have e1 : wrap64 (Int.tdiv ((2 * m : Nat) : Int) 2) = (m : Int) := by
          rw [show Int.tdiv ((2 * m : Nat) : Int) 2 = ((2 * m / 2 : Nat) : Int) from rfl, show 2 * m / 2 = m by omega]
          exact wrap_id (by omega) (by omega)
        rw [e1, denL_length]
        exact Ev.neg (by simp) (lastGas h n hn0 (by omega))

end Go.Proofs.Ytpfdgikohjifpaa.Pure

/- Words for the pure half: what holds from some number of rounds on, step by step; lists that are read and written by index. No program stands here. -/
import Derived.Test.YtbeinhdoggfgkaaWWords
import Derived.Test.YtbeinhdoggfgkaaWMore
import Derived.Test.YtbeinhdoggfgkaaWSized
namespace Go.Proofs.Ytbeinhdoggfgkaa.L
open Go.RowKit Go.Proofs.YtbeinhdoggfgkaaW.PrintWords Go.Proofs.YtbeinhdoggfgkaaW.PrintLast
set_option linter.unusedVariables false
set_option linter.unusedSimpArgs false

theorem Ev.succ {α : Type} {g : Nat → Option α} {r : α} (h : Ev (fun k => g (k + 1)) r) : Ev g r := Ev.step (fun _ => rfl) h
theorem Ev.pos {α : Type} {c : Prop} [Decidable c] {a b : Nat → Option α} {r : α} (hc : c) (h : Ev a r) : Ev (fun k => if c then a k else b k) r := Ev.congr (fun _ => if_pos hc) h
theorem Ev.neg {α : Type} {c : Prop} [Decidable c] {a b : Nat → Option α} {r : α} (hc : ¬ c) (h : Ev b r) : Ev (fun k => if c then a k else b k) r := Ev.congr (fun _ => if_neg hc) h
theorem Ev.bnd {α β : Type} {g : Option α} {f : Nat → α → Option β} {a : α} {r : β} (h : g = some a) (k : Ev (fun n => f n a) r) : Ev (fun n => g.bind (f n)) r := Ev.congr (fun n => by rw [h]; rfl) k
theorem Ev.val {α : Type} {a : Option α} {r : α} (h : a = some r) : Ev (fun _ => a) r := ⟨0, fun _ _ => h⟩
theorem Ev.cast {α : Type} {g : Nat → Option α} {r r' : α} (h : Ev g r) (e : r = r') : Ev g r' := e ▸ h
/-- Two values of one call are equal. -/
theorem Ev.uniq {α : Type} {g : Nat → Option α} {r r' : α} (h : Ev g r) (h' : Ev g r') : r = r' := by
  obtain ⟨K, h⟩ := h
  obtain ⟨K', h'⟩ := h'
  have a := h (max K K') (by omega)
  have b := h' (max K K') (by omega)
  rw [a] at b
  exact Option.some.inj b

theorem wrap_id {x : Int} (h0 : -9223372036854775808 ≤ x) (h1 : x ≤ 9223372036854775807) : wrap64 x = x := by unfold wrap64; omega

theorem rd_lt (l : List Int) (i : Nat) (h : i < l.length) : rd l (i : Int) = l[i] := by
  unfold rd; rw [Int.toNat_natCast, List.getD_eq_getElem?_getD, List.getElem?_eq_getElem h]; rfl

theorem rd_cons_zero (x : Int) (l : List Int) : rd (x :: l) 0 = x := rfl
theorem rd_mem (l : List Int) (i : Int) (h0 : 0 ≤ i) (h : i < l.length) : rd l i ∈ l := by
  obtain ⟨n, rfl⟩ := Int.eq_ofNat_of_zero_le h0
  have hn : n < l.length := by omega
  rw [rd_lt l n hn]; exact List.getElem_mem hn

theorem bounds_of_wf {x : Int} (h : (Lit.int .i64 x).wf = true) : -9223372036854775808 ≤ x ∧ x ≤ 9223372036854775807 := by
  simp only [Lit.wf, Bool.and_eq_true, decide_eq_true_eq] at h
  exact h

theorem take_set_rep (l : List Int) (i : Nat) (h : i < l.length) : (l.take i ++ List.replicate (l.length - i) 0).set i l[i] = l.take (i + 1) ++ List.replicate (l.length - (i + 1)) 0 := by
  have hl : (l.take i).length = i := by rw [List.length_take]; omega
  rw [List.set_append_right _ _ (by omega), hl, Nat.sub_self, show l.length - i = (l.length - (i + 1)) + 1 by omega, List.replicate_succ, List.set_cons_zero, List.take_succ_eq_append_getElem h, List.append_assoc]; rfl

theorem take_set_rep' (l : List Int) (i n : Nat) (h : i < l.length) (hn : l.length = n) : (l.take i ++ List.replicate (n - i) 0).set i l[i] = l.take (i + 1) ++ List.replicate (n - (i + 1)) 0 := by
  subst hn; exact take_set_rep l i h

/-- A loop that counts up: state S i at round i; P: what is known there. -/
theorem Ev.upto {σ ρ : Type} (n : Nat) (P : Nat → Prop) (S : Nat → σ) (r : ρ) (g : Nat → σ → Int → Option ρ)
    (step : ∀ i : Nat, i < n → P i → (P (i + 1) → Ev (fun k => g k (S (i + 1)) ((i : Int) + 1)) r) → Ev (fun k => g k (S i) (i : Int)) r)
    (last : P n → Ev (fun k => g k (S n) (n : Int)) r) (h0 : P 0) : Ev (fun k => g k (S 0) 0) r := by
  have main : ∀ d i : Nat, i + d = n → P i → Ev (fun k => g k (S i) (i : Int)) r := by
    intro d
    induction d with
    | zero =>
      intro i hi hp
      obtain rfl : i = n := by omega
      exact last hp
    | succ d ih => exact fun i hi hp => step i (by omega) hp (fun hp' => ih (i + 1) (by omega) hp')
  exact main n 0 (by omega) h0

/-- A loop that counts down: state S i at round i, where n - i is left. -/
theorem Ev.down {σ ρ : Type} (n : Nat) (P : Nat → Prop) (S : Nat → σ) (r : ρ) (g : Nat → σ → Int → Option ρ)
    (step : ∀ i : Nat, i < n → P i → (P (i + 1) → Ev (fun k => g k (S (i + 1)) ((n : Int) - (i : Int) - 1)) r) → Ev (fun k => g k (S i) ((n : Int) - (i : Int))) r)
    (last : P n → Ev (fun k => g k (S n) 0) r) (h0 : P 0) : Ev (fun k => g k (S 0) (n : Int)) r := by
  have main : ∀ d i : Nat, i + d = n → P i → Ev (fun k => g k (S i) (d : Int)) r := by
    intro d
    induction d with
    | zero =>
      intro i hi hp
      obtain rfl : i = n := by omega
      exact last hp
    | succ d ih =>
      intro i hi hp
      have e : ((d + 1 : Nat) : Int) = (n : Int) - (i : Int) := by omega
      rw [e]
      refine step i (by omega) hp (fun hp' => ?_)
      rw [show (n : Int) - (i : Int) - 1 = (d : Int) by omega]
      exact ih (i + 1) (by omega) hp'
  exact main n 0 (by omega) h0

/-- Two loops, one in the other, over rows and columns: state S n behind n cells. -/
theorem Ev.grid {σ ρ : Type} (R C : Nat) (S : Nat → σ) (r : ρ) (g0 : Nat → σ → Int → Option ρ) (g1 : Nat → σ → Int → Int → Option ρ)
    (s0 : ∀ i : Nat, i < R → Ev (fun k => g1 k (S (i * C)) (i : Int) 0) r → Ev (fun k => g0 k (S (i * C)) (i : Int)) r)
    (s1 : ∀ i j : Nat, i < R → j < C → Ev (fun k => g1 k (S (i * C + j + 1)) (i : Int) ((j : Int) + 1)) r → Ev (fun k => g1 k (S (i * C + j)) (i : Int) (j : Int)) r)
    (e1 : ∀ i : Nat, i < R → Ev (fun k => g0 k (S (i * C + C)) ((i : Int) + 1)) r → Ev (fun k => g1 k (S (i * C + C)) (i : Int) (C : Int)) r)
    (e0 : Ev (fun k => g0 k (S (R * C)) (R : Int)) r) : Ev (fun k => g0 k (S 0) 0) r := by
  have h := Ev.upto R (fun _ => True) (fun i => S (i * C)) r g0 (fun i hi _ ih => ?_) (fun _ => e0) trivial
  · rw [Nat.zero_mul] at h; exact h
  · refine s0 i hi ?_
    have h1 := Ev.upto C (fun _ => True) (fun j => S (i * C + j)) r (fun k s x => g1 k s (i : Int) x) (fun j hj _ ihj => s1 i j hi hj (ihj trivial)) (fun _ => e1 i hi ?_) trivial
    · exact h1
    · have := ih trivial
      rw [Nat.succ_mul] at this
      exact this
/-- Cells by rows and columns. -/
def grid (R C : Nat) (f : Nat → Nat → Int) : List Int := (List.range (R * C)).map fun n => f (n / C) (n % C)
theorem grid_length (R C : Nat) (f : Nat → Nat → Int) : (grid R C f).length = R * C := by simp [grid]
theorem grid_in {R C i j : Nat} (hi : i < R) (hj : j < C) : i * C + j < R * C := by
  have h : (i + 1) * C ≤ R * C := Nat.mul_le_mul_right C hi
  rw [Nat.succ_mul] at h
  omega
theorem grid_get (R C : Nat) (f : Nat → Nat → Int) (i j : Nat) (hi : i < R) (hj : j < C) : (grid R C f)[i * C + j]'(by rw [grid_length]; exact grid_in hi hj) = f i j := by
  have h1 : (i * C + j) / C = i := by rw [Nat.mul_comm, Nat.mul_add_div (by omega), Nat.div_eq_of_lt hj, Nat.add_zero]
  have h2 : (i * C + j) % C = j := by rw [Nat.mul_comm, Nat.mul_add_mod, Nat.mod_eq_of_lt hj]
  simp only [grid, List.getElem_map, List.getElem_range, h1, h2]
theorem grid_take (R C : Nat) (f : Nat → Nat → Int) (i j : Nat) (hi : i < R) (hj : j < C) : (grid R C f).take (i * C + j + 1) = (grid R C f).take (i * C + j) ++ [f i j] := by
  rw [List.take_succ_eq_append_getElem (by rw [grid_length]; exact grid_in hi hj), grid_get R C f i j hi hj]
theorem grid_mem {R C : Nat} {f : Nat → Nat → Int} {p : Int → Prop} (h : ∀ i j, i < R → j < C → p (f i j)) : ∀ x ∈ grid R C f, p x := by
  intro x hx
  simp only [grid, List.mem_map, List.mem_range] at hx
  obtain ⟨n, hn, rfl⟩ := hx
  have hC : 0 < C := by
    rcases Nat.eq_zero_or_pos C with h0 | h0
    · subst h0; simp at hn
    · exact h0
  exact h _ _ (Nat.div_lt_of_lt_mul (by rw [Nat.mul_comm]; exact hn)) (Nat.mod_lt _ hC)
/-- Three neighbours' sum. -/
def sum3 (g : Int → Int) (k : Int) : Nat → Int
  | 0 => 0
  | j + 1 => sum3 g k j + g (k - 1 + (j : Int))
theorem sum3_ok (g : Int → Int) (k B : Int) (h : ∀ x, 0 ≤ g x ∧ g x ≤ B) (j : Nat) : 0 ≤ sum3 g k j ∧ sum3 g k j ≤ B * j := by
  induction j with
  | zero => simp [sum3]
  | succ j ih =>
    have := h (k - 1 + (j : Int))
    have e : B * ((j + 1 : Nat) : Int) = B * j + B := by push_cast; rw [Int.mul_add, Int.mul_one]
    rw [e]
    simp only [sum3]
    omega

/-- A value that is told with some rounds is told with more. -/
theorem Ev.of_mono {α : Type} {g : Nat → Option α} {v : α} (hm : ∀ k, LeO (g k) (g (k + 1))) (K : Nat) (h : g K = some v) : Ev g v := by
  refine ⟨K, fun k hk => ?_⟩
  obtain ⟨d, rfl⟩ := Nat.le.dest hk
  clear hk
  induction d with
  | zero => exact h
  | succ d ih => exact hm _ _ ih
theorem take_drop_set {α : Type} (R l : List α) (i : Nat) (hR : i < R.length) (hl : R.length = l.length) : (R.take i ++ l.drop i).set i R[i] = R.take (i + 1) ++ l.drop (i + 1) := by
  have h1 : (R.take i).length = i := by rw [List.length_take]; omega
  rw [List.set_append_right _ _ (by omega), h1, Nat.sub_self, List.drop_eq_getElem_cons (by omega), List.set_cons_zero, List.take_succ_eq_append_getElem hR, List.append_assoc]; rfl

/-- All numbers of a list are from a to b. -/
def allIn (l : List Int) (a b : Int) : Bool := l.all fun x => decide (a ≤ x ∧ x ≤ b)
theorem allIn_iff {l : List Int} {a b : Int} : allIn l a b = true ↔ ∀ x ∈ l, a ≤ x ∧ x ≤ b := by
  unfold allIn
  simp [List.all_eq_true]
theorem allIn_false {l : List Int} {a b : Int} (i : Nat) (h : i < l.length) (hx : ¬ (a ≤ l[i] ∧ l[i] ≤ b)) : allIn l a b = false := by
  unfold allIn
  rw [List.all_eq_false]
  exact ⟨l[i], List.getElem_mem h, by simpa using hx⟩
theorem allIn_true {l : List Int} {a b : Int} (h : ∀ i, (hi : i < l.length) → a ≤ l[i] ∧ l[i] ≤ b) : allIn l a b = true := by
  unfold allIn
  rw [List.all_eq_true]
  intro x hx
  obtain ⟨i, hi, rfl⟩ := List.getElem_of_mem hx
  simpa using h i hi
/-- What is known of the numbers before i, and of the one at i. -/
theorem upTo_succ {l : List Int} {p : Int → Prop} {i : Nat} (h : i < l.length) (hp : ∀ j, (hj : j < l.length) → j < i → p l[j]) (hi : p l[i]) : ∀ j, (hj : j < l.length) → j < i + 1 → p l[j] := by
  intro j hj hji
  by_cases e : j < i
  · exact hp j hj e
  · obtain rfl : j = i := by omega
    exact hi

theorem sum_take_succ (l : List Int) (i : Nat) (h : i < l.length) : (l.take (i + 1)).sum = (l.take i).sum + l[i] := by
  rw [List.take_succ_eq_append_getElem h, List.sum_append]; simp
theorem sum_bound (l : List Int) (a b : Int) (h : ∀ x ∈ l, a ≤ x ∧ x ≤ b) : a * l.length ≤ l.sum ∧ l.sum ≤ b * l.length := by
  induction l with
  | nil => simp
  | cons x l ih =>
    have h1 := ih (fun y hy => h y (List.mem_cons_of_mem _ hy))
    have h2 := h x List.mem_cons_self
    have e1 : a * ((x :: l).length : Int) = a * l.length + a := by rw [List.length_cons]; push_cast; rw [Int.mul_add, Int.mul_one]
    have e2 : b * ((x :: l).length : Int) = b * l.length + b := by rw [List.length_cons]; push_cast; rw [Int.mul_add, Int.mul_one]
    rw [e1, e2, List.sum_cons]
    omega

/-- The numbers from a on. -/
def marks (a : Int) (n : Nat) : List Int := (List.range n).map fun (i : Nat) => a + (i : Int)
theorem marks_length (a : Int) (n : Nat) : (marks a n).length = n := by simp [marks]
theorem marks_succ (a : Int) (n : Nat) : marks a (n + 1) = marks a n ++ [a + n] := by simp [marks, List.range_succ]
theorem marks_get (a : Int) (n i : Nat) (h : i < n) : (marks a n)[i]'(by rw [marks_length]; exact h) = a + i := by simp [marks]
theorem marks_step (a : Int) (l : List Int) (i : Nat) (h : i < l.length) : (marks a i ++ l.drop i).set i (a + i) = marks a (i + 1) ++ l.drop (i + 1) := by
  rw [List.set_append_right _ _ (by rw [marks_length]; exact Nat.le_refl _), marks_length, Nat.sub_self, List.drop_eq_getElem_cons h, List.set_cons_zero, marks_succ, List.append_assoc]; rfl

/-- A rule is valid. -/
def validRule (s r : Int) (t : List Int) : Bool := decide (2 ≤ s ∧ s ≤ 3) && decide (0 ≤ r ∧ r ≤ 2) && decide ((t.length : Int) = s ^ (2 * r + 1).toNat) && allIn t 0 (s - 1)
theorem pow_bound (x : Int) (n : Nat) (h0 : 0 ≤ x) (h1 : x ≤ 10) (hn : n ≤ 12) : 0 ≤ x ^ n ∧ x ^ n ≤ 1000000000000 := by
  have h : ∀ n : Nat, 0 ≤ x ^ n ∧ x ^ n ≤ 10 ^ n := by
    intro n
    induction n with
    | zero => simp
    | succ n ih =>
      rw [Int.pow_succ, Int.pow_succ]
      refine ⟨Int.mul_nonneg ih.1 h0, ?_⟩
      exact Int.mul_le_mul ih.2 h1 h0 (by have := ih.1; omega)
  have h2 : (10 : Int) ^ n ≤ 10 ^ 12 := by
    have : ∀ m : Nat, m ≤ 12 → (10 : Int) ^ m ≤ 10 ^ 12 := by decide
    exact this n hn
  have := h n
  refine ⟨this.1, ?_⟩
  have e : (10 : Int) ^ 12 = 1000000000000 := by decide
  omega

/-- One after another, as long as all hold. -/
theorem Ev.and {X Y : Nat → Option Bool} {a b : Bool} (h1 : Ev X a) (h2 : a = true → Ev Y b) : Ev (fun k => (X k).bind fun t => if t = true then Y k else some false) (a && b) := by
  cases a with
  | true => exact Ev.bind h1 (Ev.pos rfl (by rw [Bool.true_and]; exact h2 rfl))
  | false => exact Ev.bind h1 (Ev.neg (by simp) (Ev.now _))
theorem Ev.andB {X : Option Bool} {Y : Nat → Option Bool} {a b : Bool} (h1 : X = some a) (h2 : a = true → Ev Y b) : Ev (fun k => X.bind fun t => if t = true then Y k else some false) (a && b) := by
  subst h1
  cases a with
  | true => exact Ev.bnd rfl (Ev.pos rfl (by rw [Bool.true_and]; exact h2 rfl))
  | false => exact Ev.bnd rfl (Ev.neg (by simp) (Ev.now _))
theorem Ev.andP {c : Prop} [Decidable c] {Y : Nat → Option Bool} {b : Bool} (h2 : c → Ev Y b) : Ev (fun k => if c then Y k else some false) (decide c && b) := by
  by_cases h : c
  · rw [decide_eq_true h, Bool.true_and]; exact Ev.pos h (h2 h)
  · rw [decide_eq_false h, Bool.false_and]; exact Ev.neg h (Ev.now _)
theorem Ev.ret {α : Type} {X : Nat → Option α} {a : α} (h1 : Ev X a) : Ev (fun k => (X k).bind fun t => some t) a := Ev.bind h1 (Ev.now _)
/-- Equal pairs are told so at last. -/
theorem Ev.eqs {X : Nat → Option Bool} {p : Prop} [Decidable p] (h1 : Ev X (decide p)) : Ev (fun k => (X k).bind fun t => if t = true then some true else some false) (decide p) :=
  Ev.cast (Ev.and h1 (fun _ => Ev.now true)) (by rw [Bool.and_true])

/-- Whether something holds, as a Bool. -/
noncomputable def cd (p : Prop) : Bool := @decide p (Classical.propDecidable p)
theorem cd_true {p : Prop} (h : p) : cd p = true := by unfold cd; exact @decide_eq_true p (Classical.propDecidable p) h
theorem cd_false {p : Prop} (h : ¬ p) : cd p = false := by unfold cd; exact @decide_eq_false p (Classical.propDecidable p) h
theorem cd_iff {p : Prop} : cd p = true ↔ p := by
  by_cases h : p
  · exact ⟨fun _ => h, fun _ => cd_true h⟩
  · exact ⟨fun e => absurd ((cd_false h).symm.trans e) (by simp), fun e => absurd e h⟩
theorem str_size (xs : List Int) : (strOfNums xs).size = xs.length := by simp [strOfNums, ByteArray.size]
/-- A field is valid. -/
def validField (r c : Int) (l : List Int) : Bool := decide (1 ≤ r ∧ r ≤ 24) && decide (1 ≤ c ∧ c ≤ 24) && decide ((l.length : Int) = r * c) && allIn l 0 9
/-- A name. -/
def nameOk (s : ByteArray) : Prop := (∀ i : Nat, i < s.size → 97 ≤ bt s (i : Int) ∧ bt s (i : Int) ≤ 122) ∧ 1 ≤ s.size ∧ s.size ≤ 8
/-- Numbers of neighbours, rising. -/
def countsOk (l : List Int) : Prop := (∀ i, (h : i + 1 < l.length) → l[i] < l[i + 1]) ∧ ∀ x ∈ l, 0 ≤ x ∧ x ≤ 8

end Go.Proofs.Ytbeinhdoggfgkaa.L
namespace Go.Proofs.Ytbeinhdoggfgkaa
/-- The same word under the name by which the rows ask for it. -/
theorem PrintWords.sized_ints : type_of% @Go.Proofs.YtbeinhdoggfgkaaW.PrintWords.sized_ints := @Go.Proofs.YtbeinhdoggfgkaaW.PrintWords.sized_ints
end Go.Proofs.Ytbeinhdoggfgkaa

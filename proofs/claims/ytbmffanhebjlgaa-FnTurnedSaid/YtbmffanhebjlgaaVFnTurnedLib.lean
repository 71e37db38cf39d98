/- Words for the walk and for the pure half, as far as this claim comes to them. -/
import Derived.Test.YtbmffanhebjlgaaVFnTurnedWWords
import Derived.Test.YtbmffanhebjlgaaVFnTurnedWMore
import Derived.Test.YtbmffanhebjlgaaVFnTurnedWSized
namespace Go.Proofs.Ytbmffanhebjlgaa.L
open Go.RowKit Go.Proofs.YtbmffanhebjlgaaW.PrintWords Go.Proofs.YtbmffanhebjlgaaW.PrintLast
set_option linter.unusedVariables false
set_option linter.unusedSimpArgs false
theorem Ev.succ {α : Type} {g : Nat → Option α} {r : α} (h : Ev (fun k => g (k + 1)) r) : Ev g r := Ev.step (fun _ => rfl) h
theorem Ev.pos {α : Type} {c : Prop} [Decidable c] {a b : Nat → Option α} {r : α} (hc : c) (h : Ev a r) : Ev (fun k => if c then a k else b k) r := Ev.congr (fun _ => if_pos hc) h
theorem Ev.neg {α : Type} {c : Prop} [Decidable c] {a b : Nat → Option α} {r : α} (hc : ¬ c) (h : Ev b r) : Ev (fun k => if c then a k else b k) r := Ev.congr (fun _ => if_neg hc) h
theorem Ev.bnd {α β : Type} {g : Option α} {f : Nat → α → Option β} {a : α} {r : β} (h : g = some a) (k : Ev (fun n => f n a) r) : Ev (fun n => g.bind (f n)) r := Ev.congr (fun n => by rw [h]; rfl) k
theorem Ev.val {α : Type} {a : Option α} {r : α} (h : a = some r) : Ev (fun _ => a) r := ⟨0, fun _ _ => h⟩
theorem Ev.cast {α : Type} {g : Nat → Option α} {r r' : α} (h : Ev g r) (e : r = r') : Ev g r' := e ▸ h
theorem wrap_id {x : Int} (h0 : -9223372036854775808 ≤ x) (h1 : x ≤ 9223372036854775807) : wrap64 x = x := by unfold wrap64; omega
theorem rd_lt (l : List Int) (i : Nat) (h : i < l.length) : rd l (i : Int) = l[i] := by
  unfold rd; rw [Int.toNat_natCast, List.getD_eq_getElem?_getD, List.getElem?_eq_getElem h]; rfl
theorem rd_mem (l : List Int) (i : Int) (h0 : 0 ≤ i) (h : i < l.length) : rd l i ∈ l := by
  obtain ⟨n, rfl⟩ := Int.eq_ofNat_of_zero_le h0
  have hn : n < l.length := by omega
  rw [rd_lt l n hn]; exact List.getElem_mem hn
theorem take_set_rep (l : List Int) (i : Nat) (h : i < l.length) : (l.take i ++ List.replicate (l.length - i) 0).set i l[i] = l.take (i + 1) ++ List.replicate (l.length - (i + 1)) 0 := by
  have hl : (l.take i).length = i := by rw [List.length_take]; omega
  rw [List.set_append_right _ _ (by omega), hl, Nat.sub_self, show l.length - i = (l.length - (i + 1)) + 1 by omega, List.replicate_succ, List.set_cons_zero, List.take_succ_eq_append_getElem h, List.append_assoc]; rfl
theorem take_set_rep' (l : List Int) (i n : Nat) (h : i < l.length) (hn : l.length = n) : (l.take i ++ List.replicate (n - i) 0).set i l[i] = l.take (i + 1) ++ List.replicate (n - (i + 1)) 0 := by
  subst hn; exact take_set_rep l i h
theorem Ev.upto {σ ρ : Type} (n : Nat) (P : Nat → Prop) (S : Nat → σ) (r : ρ) (g : Nat → σ → Int → Option ρ)
    (step : ∀ i : Nat, i < n → P i → (P (i + 1) → Ev (fun k => g k (S (i + 1)) ((i : Int) + 1)) r) → Ev (fun k => g k (S i) (i : Int)) r)
    (last : P n → Ev (fun k => g k (S n) (n : Int)) r) (h0 : P 0) : Ev (fun k => g k (S 0) 0) r := by
  have main : ∀ d i : Nat, i + d = n → P i → Ev (fun k => g k (S i) (i : Int)) r := by
    intro d
    induction d with
    | zero =>
      intro i hi hp
      obtain rfl : i = n := by omega
      exact last hp
    | succ d ih => exact fun i hi hp => step i (by omega) hp (fun hp' => ih (i + 1) (by omega) hp')
  exact main n 0 (by omega) h0
theorem Ev.of_mono {α : Type} {g : Nat → Option α} {v : α} (hm : ∀ k, LeO (g k) (g (k + 1))) (K : Nat) (h : g K = some v) : Ev g v := by
  refine ⟨K, fun k hk => ?_⟩
  obtain ⟨d, rfl⟩ := Nat.le.dest hk
  clear hk
  induction d with
  | zero => exact h
  | succ d ih => exact hm _ _ ih
theorem take_drop_set {α : Type} (R l : List α) (i : Nat) (hR : i < R.length) (hl : R.length = l.length) : (R.take i ++ l.drop i).set i R[i] = R.take (i + 1) ++ l.drop (i + 1) := by
  have h1 : (R.take i).length = i := by rw [List.length_take]; omega
  rw [List.set_append_right _ _ (by omega), h1, Nat.sub_self, List.drop_eq_getElem_cons (by omega), List.set_cons_zero, List.take_succ_eq_append_getElem hR, List.append_assoc]; rfl
def allIn (l : List Int) (a b : Int) : Bool := l.all fun x => decide (a ≤ x ∧ x ≤ b)
theorem allIn_iff {l : List Int} {a b : Int} : allIn l a b = true ↔ ∀ x ∈ l, a ≤ x ∧ x ≤ b := by
  unfold allIn
  simp [List.all_eq_true]
theorem allIn_false {l : List Int} {a b : Int} (i : Nat) (h : i < l.length) (hx : ¬ (a ≤ l[i] ∧ l[i] ≤ b)) : allIn l a b = false := by
  unfold allIn
  rw [List.all_eq_false]
  exact ⟨l[i], List.getElem_mem h, by simpa using hx⟩
theorem allIn_true {l : List Int} {a b : Int} (h : ∀ i, (hi : i < l.length) → a ≤ l[i] ∧ l[i] ≤ b) : allIn l a b = true := by
  unfold allIn
  rw [List.all_eq_true]
  intro x hx
  obtain ⟨i, hi, rfl⟩ := List.getElem_of_mem hx
  simpa using h i hi
theorem upTo_succ {l : List Int} {p : Int → Prop} {i : Nat} (h : i < l.length) (hp : ∀ j, (hj : j < l.length) → j < i → p l[j]) (hi : p l[i]) : ∀ j, (hj : j < l.length) → j < i + 1 → p l[j] := by
  intro j hj hji
  by_cases e : j < i
  · exact hp j hj e
  · obtain rfl : j = i := by omega
    exact hi
def validRule (s r : Int) (t : List Int) : Bool := decide (2 ≤ s ∧ s ≤ 3) && decide (0 ≤ r ∧ r ≤ 2) && decide ((t.length : Int) = s ^ (2 * r + 1).toNat) && allIn t 0 (s - 1)
theorem pow_bound (x : Int) (n : Nat) (h0 : 0 ≤ x) (h1 : x ≤ 10) (hn : n ≤ 12) : 0 ≤ x ^ n ∧ x ^ n ≤ 1000000000000 := by
  have h : ∀ n : Nat, 0 ≤ x ^ n ∧ x ^ n ≤ 10 ^ n := by
    intro n
    induction n with
    | zero => simp
    | succ n ih =>
      rw [Int.pow_succ, Int.pow_succ]
      refine ⟨Int.mul_nonneg ih.1 h0, ?_⟩
      exact Int.mul_le_mul ih.2 h1 h0 (by have := ih.1; omega)
  have h2 : (10 : Int) ^ n ≤ 10 ^ 12 := by
    have : ∀ m : Nat, m ≤ 12 → (10 : Int) ^ m ≤ 10 ^ 12 := by decide
    exact this n hn
  have := h n
  refine ⟨this.1, ?_⟩
  have e : (10 : Int) ^ 12 = 1000000000000 := by decide
  omega
theorem Ev.and {X Y : Nat → Option Bool} {a b : Bool} (h1 : Ev X a) (h2 : a = true → Ev Y b) : Ev (fun k => (X k).bind fun t => if t = true then Y k else some false) (a && b) := by
  cases a with
  | true => exact Ev.bind h1 (Ev.pos rfl (by rw [Bool.true_and]; exact h2 rfl))
  | false => exact Ev.bind h1 (Ev.neg (by simp) (Ev.now _))
end Go.Proofs.Ytbmffanhebjlgaa.L
namespace Go.Proofs.Ytbmffanhebjlgaa
theorem PrintWords.sized_ints : type_of% @Go.Proofs.YtbmffanhebjlgaaW.PrintWords.sized_ints := @Go.Proofs.YtbmffanhebjlgaaW.PrintWords.sized_ints
end Go.Proofs.Ytbmffanhebjlgaa

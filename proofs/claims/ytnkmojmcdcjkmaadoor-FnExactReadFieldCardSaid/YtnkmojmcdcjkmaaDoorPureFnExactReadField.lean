/- ReadField of the program and of the reference answer the same for every text. -/
import Derived.Test.YtnkmojmcdcjkmaaDoorPFnExactReadFieldx0
import Derived.Test.YtnkmojmcdcjkmaaDoorPFnExactReadFieldx1
import Derived.Test.YtnkmojmcdcjkmaaDoorPFnExactReadFieldx2
import Derived.Test.YtnkmojmcdcjkmaaDoorLib
namespace Go.Proofs.YtnkmojmcdcjkmaaDoor.Pure
open Go.RowKit Go.Proofs.YtnkmojmcdcjkmaaDoor.PFnExactReadField Go.Proofs.YtnkmojmcdcjkmaaDoorW.PrintWords Go.Proofs.YtnkmojmcdcjkmaaDoorW.PrintLast Go.Proofs.YtnkmojmcdcjkmaaDoor.L
set_option linter.unusedVariables false
set_option linter.unusedSimpArgs false

theorem within (a b c : Int) : impl_within.f a b c = some (decide (b ≤ a ∧ a ≤ c)) := by
  unfold impl_within.f
  by_cases h : a ≥ b
  · rw [if_pos h]; simp; omega
  · rw [if_neg h]; simp; omega

theorem rdB_lt (l : List ByteArray) (i : Nat) (h : i < l.length) : rdOf ByteArray.empty l (i : Int) = l[i] := by
  unfold rdOf; rw [Int.toNat_natCast, List.getD_eq_getElem?_getD, List.getElem?_eq_getElem h]; rfl
theorem bt_at (s : ByteArray) (i : Nat) (h : i < s.size) : bt s (i : Int) = ((s[i]'h).toNat : Int) := by
  unfold bt; rw [dif_pos (by simpa using h)]; rfl
theorem bt_in (s : ByteArray) (i : Int) : 0 ≤ bt s i ∧ bt s i ≤ 255 := by
  unfold bt
  split
  · rename_i h
    have := UInt8.toNat_lt (s[i.toNat]'h)
    omega
  · omega
theorem indexByte_two (l : List UInt8) (c : UInt8) : (Go.Lib.indexByte l c = -1 ∧ c ∉ l) ∨ (0 ≤ Go.Lib.indexByte l c ∧ c ∈ l) := by
  induction l with
  | nil => exact Or.inl ⟨rfl, by simp⟩
  | cons b l ih =>
    unfold Go.Lib.indexByte
    by_cases h : b = c
    · subst h; right; simp
    · have hb : (b == c) = false := by simpa using h
      rw [hb]
      rcases ih with ⟨h1, h2⟩ | ⟨h1, h2⟩
      · left; rw [h1]; exact ⟨rfl, by simp; exact ⟨fun e => h e.symm, h2⟩⟩
      · right
        have hn : (Go.Lib.indexByte l c == -1) = false := by simp; omega
        rw [hn]
        exact ⟨by simp; omega, List.mem_cons_of_mem _ h2⟩
/-- The running check over the first bytes. -/
def chkN (c : Int) (s : ByteArray) : Nat → Int
  | 0 => c
  | i + 1 => Int.tmod (wrap64 ((wrap64 ((wrap64 (947 * chkN c s i)) + (wrap64 (bt s (i : Int))))) + 211)) 65003
theorem chk_in (c : Int) (s : ByteArray) (h0 : 0 ≤ c) (h1 : c ≤ 65002) (i : Nat) : 0 ≤ chkN c s i ∧ chkN c s i ≤ 65002 := by
  induction i with
  | zero => exact ⟨h0, h1⟩
  | succ i ih =>
    have hb := bt_in s (i : Int)
    unfold chkN
    rw [wrap_id (x := 947 * chkN c s i) (by omega) (by omega), wrap_id (x := bt s (i : Int)) (by omega) (by omega), wrap_id (x := 947 * chkN c s i + bt s (i : Int)) (by omega) (by omega), wrap_id (by omega) (by omega), Int.tmod_eq_emod_of_nonneg (by omega)]
    omega
def decB (u : Nat) : ByteArray := ⟨(Go.Lib.decDigits u).toArray⟩
theorem decLen (d : Nat) : ∀ m : Nat, m < 10 ^ (d + 1) → 1 ≤ (Go.Lib.decDigits m).length ∧ (Go.Lib.decDigits m).length ≤ d + 1 := by
  induction d with
  | zero =>
    intro m hm
    rw [Go.Lib.decDigits, dif_pos (by omega)]
    simp
  | succ d ih =>
    intro m hm
    rw [Go.Lib.decDigits]
    by_cases c : m < 10
    · rw [dif_pos c]; simp
    · rw [dif_neg c, List.length_append]
      have := ih (m / 10) (by rw [Nat.pow_succ] at hm; omega)
      simp; omega
theorem decB_size (m : Nat) (h : m ≤ 65002) : 1 ≤ (decB m).size ∧ (decB m).size ≤ 5 := by
  have := decLen 4 m (by omega)
  unfold decB
  simpa [ByteArray.size] using this
def decI (u : Nat) : List Int := (Go.Lib.decDigits u).map fun b => (b.toNat : Int)
theorem decI_str (u : Nat) : strOfNums (decI u) = decB u := by
  unfold strOfNums decI decB
  rw [List.map_map]
  congr 2
  apply (List.map_congr_left (g := id) ?_).trans (List.map_id _)
  intro b _
  simp
theorem decI_small (u : Nat) (h : u < 10) : decI u = [48 + (u : Int)] := by
  unfold decI
  rw [Go.Lib.decDigits, dif_pos h]
  have : (UInt8.ofNat (48 + u)).toNat = 48 + u := by rw [UInt8.toNat_ofNat']; omega
  simp only [List.map_cons, List.map_nil, this]
  congr 1
theorem decI_step (u : Nat) (h : ¬ u < 10) : decI u = decI (u / 10) ++ [48 + ((u % 10 : Nat) : Int)] := by
  unfold decI
  rw [Go.Lib.decDigits, dif_neg h, List.map_append]
  have : (UInt8.ofNat (48 + u % 10)).toNat = 48 + u % 10 := by rw [UInt8.toNat_ofNat']; omega
  simp only [List.map_cons, List.map_nil, this]
  congr 1
theorem decStep1 (x0 : Int) (m : Nat) (hm : m ≤ 1000000000) (x3 : List Int) (h3 : x3.length ≤ 1000) (hc : x3 = [] ∨ 0 < m) {r : ByteArray} (h : Ev (fun k => spec_l01Dec.l0 k x0 ((48 + ((m % 10 : Nat) : Int)) :: x3) ((m / 10 : Nat) : Int)) r) : Ev (fun k => spec_l01Dec.l0 k x0 x3 (m : Int)) r := by
  have e1 : Int.tmod (m : Int) 10 = ((m % 10 : Nat) : Int) := by rw [Int.tmod_eq_emod_of_nonneg (by omega)]; omega
  have e2 : Int.tdiv (m : Int) 10 = ((m / 10 : Nat) : Int) := by rw [Int.tdiv_eq_ediv_of_nonneg (by omega)]; omega
  have key : Ev (fun k => spec_l01Dec.j1 k x0 x3 (m : Int) true) r := by
    refine Ev.succ ?_
    simp only [spec_l01Dec.j1]
    rw [e1, e2, wrap_id (x := 48 + ((m % 10 : Nat) : Int)) (by omega) (by omega), wrap_id (x := ((m / 10 : Nat) : Int)) (by omega) (by omega), Int.emod_eq_of_lt (a := 48 + ((m % 10 : Nat) : Int)) (b := 256) (by omega) (by omega)]
    refine Ev.pos (by first | trivial | rfl) (Ev.neg (by omega) (Ev.bnd rfl (Ev.pos (by simp; omega) ?_)))
    exact h
  refine Ev.succ ?_
  simp only [spec_l01Dec.l0]
  rcases hc with rfl | hc
  · exact Ev.pos rfl key
  · by_cases c : (x3.length : Int) = 0
    · exact Ev.pos c key
    · refine Ev.neg c ?_
      rw [show (((m : Int)) != 0) = true from by simp; omega]
      exact key
theorem decEnd (x0 : Int) (h0 : 0 ≤ x0) (x3 : List Int) (h3 : x3 ≠ []) : Ev (fun k => spec_l01Dec.l0 k x0 x3 ((0 : Nat) : Int)) (strOfNums x3) := by
  refine Ev.succ ?_
  simp only [spec_l01Dec.l0]
  refine Ev.neg (by have := List.length_pos_iff.2 h3; omega) ?_
  refine Ev.succ ?_
  simp only [spec_l01Dec.j1]
  exact Ev.neg (by simp) (Ev.neg (by omega) (Ev.now _))
theorem decRun (x0 : Int) (h0 : 0 ≤ x0) (d : Nat) : ∀ (m : Nat) (x3 : List Int), m < 10 ^ (d + 1) → d ≤ 8 → x3.length + d ≤ 900 → (x3 = [] ∨ 0 < m) → Ev (fun k => spec_l01Dec.l0 k x0 x3 (m : Int)) (strOfNums (decI m ++ x3)) := by
  induction d with
  | zero =>
    intro m x3 hm _ hl hc
    refine decStep1 x0 m (by omega) x3 (by omega) hc ?_
    have : m / 10 = 0 := by omega
    rw [this, decI_small m (by omega), Nat.mod_eq_of_lt (by omega)]
    exact decEnd x0 h0 _ (by simp)
  | succ d ih =>
    intro m x3 hm hd hl hc
    have h9 : 10 ^ (d + 1 + 1) ≤ 10 ^ 9 := Nat.pow_le_pow_right (by omega) (by omega)
    refine decStep1 x0 m (by omega) x3 (by omega) hc ?_
    by_cases c : m < 10
    · have : m / 10 = 0 := by omega
      rw [this, decI_small m c, Nat.mod_eq_of_lt c]
      exact decEnd x0 h0 _ (by simp)
    · refine Ev.cast (ih (m / 10) _ (by rw [Nat.pow_succ] at hm; omega) (by omega) (by simp; omega) (Or.inr (by omega))) ?_
      rw [decI_step m c, List.append_assoc]; rfl
theorem decSpec (n : Int) (h0 : 0 ≤ n) (h1 : n ≤ 65002) : Ev (fun k => spec_l01Dec.f k n) (decB n.toNat) := by
  obtain ⟨m, rfl⟩ := Int.eq_ofNat_of_zero_le h0
  unfold spec_l01Dec.f
  refine Ev.cast (decRun (m : Int) h0 4 m [] (by omega) (by omega) (by simp) (Or.inl rfl)) ?_
  rw [List.append_nil, decI_str, Int.toNat_natCast]
theorem decImpl (n : Int) (h0 : 0 ≤ n) (h1 : n ≤ 65002) : impl_Decimal.f n = some (decB n.toNat) := by
  unfold impl_Decimal.f strconv_FormatInt.f
  rw [if_pos rfl, if_pos (by omega), if_pos (by omega), Option.bind_some]
  unfold Go.Lib.itoa decB
  rw [if_neg (by omega)]

theorem firstAt (s : ByteArray) (c : Int) (n : Nat) : ∀ (d p : Nat), p + d = n → ∃ q : Nat, p ≤ q ∧ q ≤ n ∧ (∀ j : Nat, p ≤ j → j < q → bt s (j : Int) ≠ c) ∧ (q = n ∨ q < n ∧ bt s (q : Int) = c) := by
  intro d
  induction d with
  | zero => intro p h; exact ⟨p, Nat.le_refl _, by omega, fun j h1 h2 => by omega, Or.inl (by omega)⟩
  | succ d ih =>
    intro p h
    by_cases e : bt s (p : Int) = c
    · exact ⟨p, Nat.le_refl _, by omega, fun j h1 h2 => by omega, Or.inr ⟨by omega, e⟩⟩
    · obtain ⟨q, h1, h2, h3, h4⟩ := ih (p + 1) (by omega)
      refine ⟨q, by omega, h2, fun j j1 j2 => ?_, h4⟩
      by_cases ej : j = p
      · subst ej; exact e
      · exact h3 j (by omega) j2
theorem at_iff (s : ByteArray) (j : Nat) (c : UInt8) : s.data.toList[j]? = some c ↔ j < s.size ∧ bt s (j : Int) = (c.toNat : Int) := by
  constructor
  · intro h
    obtain ⟨hj, e⟩ := List.getElem?_eq_some_iff.1 h
    have hj' : j < s.size := by rw [Array.length_toList] at hj; exact hj
    refine ⟨hj', ?_⟩
    rw [bt_at s j hj', ← e]; rfl
  · rintro ⟨hj, e⟩
    rw [bt_at s j hj] at e
    have hj' : j < s.data.toList.length := by rw [Array.length_toList]; exact hj
    rw [List.getElem?_eq_getElem hj']
    congr 1
    apply UInt8.toNat_inj.1
    have : s.data.toList[j] = s[j] := rfl
    rw [this]
    omega
theorem indexByte_hit (c : UInt8) : ∀ (l : List UInt8) (e : Nat), l[e]? = some c → (∀ j, j < e → l[j]? ≠ some c) → Go.Lib.indexByte l c = (e : Int) := by
  intro l
  induction l with
  | nil => intro e h _; simp at h
  | cons b l ih =>
    intro e h hn
    unfold Go.Lib.indexByte
    cases e with
    | zero =>
      have : b = c := by simpa using h
      subst this; simp
    | succ e =>
      have hb : (b == c) = false := by
        have := hn 0 (by omega)
        simpa using this
      have := ih e (by simpa using h) (fun j hj => by have := hn (j + 1) (by omega); simpa using this)
      rw [hb, this]
      have h2 : (((e : Nat) : Int) == -1) = false := by rw [beq_eq_false_iff_ne]; omega
      rw [h2]
      simp
theorem idx_hit (s : ByteArray) (c : UInt8) (e : Nat) (he : e < s.size) (hn : ∀ j : Nat, j < e → bt s (j : Int) ≠ (c.toNat : Int)) (hc : bt s (e : Int) = (c.toNat : Int)) : Go.Lib.indexByte s.data.toList c = (e : Int) := by
  refine indexByte_hit c _ e ((at_iff s e c).2 ⟨he, hc⟩) (fun j hj h => ?_)
  exact hn j hj ((at_iff s j c).1 h).2
theorem idx_none (s : ByteArray) (c : UInt8) (hn : ∀ j : Nat, j < s.size → bt s (j : Int) ≠ (c.toNat : Int)) : Go.Lib.indexByte s.data.toList c = -1 := by
  rcases indexByte_two s.data.toList c with ⟨h, _⟩ | ⟨_, h⟩
  · exact h
  · obtain ⟨j, hj, e⟩ := List.getElem_of_mem h
    have := (at_iff s j c).1 (by rw [List.getElem?_eq_getElem hj, e])
    exact absurd this.2 (hn j this.1)
theorem bt_extract (s : ByteArray) (p q j : Nat) (hq : q ≤ s.size) (h : p + j < q) : bt (s.extract p q) (j : Int) = bt s ((p + j : Nat) : Int) := by
  have hz : j < (s.extract p q).size := by rw [ByteArray.size_extract]; omega
  rw [bt_at _ _ hz, bt_at _ _ (by omega : p + j < s.size), ByteArray.getElem_extract]
theorem ext_sz (s : ByteArray) (p q : Nat) (hq : q ≤ s.size) : (s.extract p q).size = q - p := by rw [ByteArray.size_extract]; omega
theorem cutSkip {s : ByteArray} {m : UInt8} (hs : s.size ≤ 1048576) {out : List ByteArray} {f : Int} {r : List ByteArray} {q : Nat} (hq : q ≤ s.size) (d : Nat) : ∀ p : Nat, p + d = q → (∀ j : Nat, p ≤ j → j < q → bt s (j : Int) ≠ (m.toNat : Int)) → Ev (fun k => spec_l01Cut.l0 k s (m.toNat : Int) out f (q : Int)) r → Ev (fun k => spec_l01Cut.l0 k s (m.toNat : Int) out f (p : Int)) r := by
  induction d with
  | zero => intro p hp _ h; obtain rfl : p = q := by omega
            exact h
  | succ d ih =>
    intro p hp hn h
    refine Ev.succ ?_
    simp only [spec_l01Cut.l0]
    refine Ev.pos (by omega) (Ev.neg (by omega) (Ev.pos (by omega) (Ev.pos (by omega) (Ev.neg (hn p (by omega) (by omega)) ?_))))
    rw [wrap_id (x := (p : Int) + 1) (by omega) (by omega)]
    exact ih (p + 1) (by omega) (fun j j1 j2 => hn j (by omega) j2) h
/-- The lines of s from p on; what stands behind the last newline is none. -/
inductive Lines (s : ByteArray) (m : UInt8) : Nat → List ByteArray → Nat → Prop
  | last (p : Nat) (h : p ≤ s.size) (hn : ∀ j : Nat, p ≤ j → j < s.size → bt s (j : Int) ≠ (m.toNat : Int)) : Lines s m p [] p
  | line (p q e : Nat) (L : List ByteArray) (h : p ≤ q) (hq : q < s.size) (hn : ∀ j : Nat, p ≤ j → j < q → bt s (j : Int) ≠ (m.toNat : Int)) (he : bt s (q : Int) = (m.toNat : Int)) (ht : Lines s m (q + 1) L e) : Lines s m p (s.extract p q :: L) e
theorem lines_ex (s : ByteArray) (m : UInt8) : ∀ (d p : Nat), p ≤ s.size → s.size - p ≤ d → ∃ L e, Lines s m p L e := by
  intro d
  induction d with
  | zero =>
    intro p h hd
    exact ⟨[], p, .last p h fun j h1 h2 => by omega⟩
  | succ d ih =>
    intro p h hd
    obtain ⟨q, h1, h2, h3, h4⟩ := firstAt s (m.toNat : Int) s.size (s.size - p) p (by omega)
    rcases h4 with rfl | ⟨h4, h5⟩
    · exact ⟨[], p, .last p h h3⟩
    · obtain ⟨L, e, hL⟩ := ih (q + 1) (by omega) (by omega)
      exact ⟨_, e, .line p q e L h1 h4 h3 h5 hL⟩
theorem lines_len {s : ByteArray} {m : UInt8} {p : Nat} {L : List ByteArray} {e : Nat} (h : Lines s m p L e) : p + L.length ≤ s.size := by
  induction h with
  | last p h _ => simpa using h
  | line p q e L h hq _ _ _ ih => rw [List.length_cons]; omega
theorem cutLines {s : ByteArray} {m : UInt8} (hs : s.size ≤ 1048576) {p : Nat} {L : List ByteArray} {e : Nat} (h : Lines s m p L e) : ∀ out : List ByteArray, out.length + L.length ≤ 8000000000000 → Ev (fun k => spec_l01Cut.l0 k s (m.toNat : Int) out (p : Int) (p : Int)) (out ++ L ++ [s.extract e s.size]) := by
  induction h with
  | last p h hn =>
    intro out ho
    rw [List.length_nil] at ho
    refine cutSkip hs (Nat.le_refl _) (s.size - p) p (by omega) hn ?_
    refine Ev.succ ?_
    simp only [spec_l01Cut.l0]
    refine Ev.pos (by omega) (Ev.pos (by first | trivial | rfl) (Ev.pos (by omega) (Ev.pos (by omega) (Ev.pos (by omega) ?_))))
    rw [wrap_id (x := (s.size : Int) + 1) (by omega) (by omega), Int.toNat_natCast, Int.toNat_natCast]
    refine Ev.succ ?_
    simp only [spec_l01Cut.l0]
    exact Ev.neg (by omega) (Ev.val (by rw [List.append_nil]))
  | line p q e L h hq hn he ht ih =>
    intro out ho
    rw [List.length_cons] at ho
    have hz := ih (out ++ [s.extract p q]) (by rw [List.length_append]; simp; omega)
    refine cutSkip hs (by omega) (q - p) p (by omega) hn ?_
    refine Ev.succ ?_
    simp only [spec_l01Cut.l0]
    refine Ev.pos (by omega) (Ev.neg (by omega) (Ev.pos (by omega) (Ev.pos (by omega) (Ev.pos he (Ev.pos (by omega) (Ev.pos (by omega) (Ev.pos (by omega) ?_)))))))
    rw [wrap_id (x := (q : Int) + 1) (by omega) (by omega), Int.toNat_natCast, Int.toNat_natCast]
    refine Ev.cast hz ?_
    rw [List.append_assoc out, List.singleton_append]
theorem cutAll {s : ByteArray} {m : UInt8} (hs : s.size ≤ 1048576) {L : List ByteArray} {e : Nat} (h : Lines s m 0 L e) : Ev (fun k => spec_l01Cut.f k s (m.toNat : Int)) (L ++ [s.extract e s.size]) := by
  have hl := lines_len h
  have hz := cutLines hs h [] (by rw [List.length_nil]; omega)
  rw [List.nil_append] at hz
  exact hz
theorem splitLines {s : ByteArray} {m : UInt8} {p : Nat} {L : List ByteArray} {e : Nat} (h : Lines s m p L e) : Go.Lib.splitB (⟨#[m]⟩ : ByteArray) 0 (Go.Lib.countB (s.extract p s.size) (⟨#[m]⟩ : ByteArray)) (s.extract p s.size) = L ++ [s.extract e s.size] := by
  induction h with
  | last p h hn =>
    refine Go.Lib.splitB_miss _ _ _ _ ?_
    show Go.Lib.index _ [m] = -1
    rw [Go.Lib.index_one]
    refine idx_none _ m (fun j hj => ?_)
    rw [ext_sz _ _ _ (Nat.le_refl _)] at hj
    rw [bt_extract _ _ _ _ (Nat.le_refl _) (by omega)]
    exact hn _ (by omega) (by omega)
  | line p q e L h hq hn he ht ih =>
    have hi : Go.Lib.indexB (s.extract p s.size) (⟨#[m]⟩ : ByteArray) = ((q - p : Nat) : Int) := by
      show Go.Lib.index _ [m] = _
      rw [Go.Lib.index_one]
      refine idx_hit _ m (q - p) (by rw [ext_sz _ _ _ (Nat.le_refl _)]; omega) (fun j hj => ?_) ?_
      · rw [bt_extract _ _ _ _ (Nat.le_refl _) (by omega)]
        exact hn _ (by omega) (by omega)
      · rw [bt_extract _ _ _ _ (Nat.le_refl _) (by omega), show p + (q - p) = q from by omega]
        exact he
    have h1 : (⟨#[m]⟩ : ByteArray).size = 1 := rfl
    have ee : (s.extract p s.size).extract (q - p + (⟨#[m]⟩ : ByteArray).size) (s.extract p s.size).size = s.extract (q + 1) s.size := by
      rw [h1, ext_sz _ _ _ (Nat.le_refl _), ByteArray.extract_extract]
      congr 1 <;> omega
    have e0 : (s.extract p s.size).extract 0 (q - p + 0) = s.extract p q := by
      rw [ByteArray.extract_extract]
      congr 1 <;> omega
    rw [Go.Lib.countB_hit _ _ (q - p) (by rw [h1]; exact Nat.le_refl _) hi, Nat.add_comm 1, Go.Lib.splitB_hit _ _ _ _ (q - p) hi, ee, ih, e0]
    rfl

def itoaB (n : Int) : ByteArray := ⟨(Go.Lib.itoa n).toArray⟩
theorem itoaB_nat (m : Nat) : itoaB (m : Int) = decB m := by
  unfold itoaB Go.Lib.itoa decB
  rw [if_neg (by omega), Int.toNat_natCast]
theorem itoaB_neg (m : Nat) (h : 0 < m) : itoaB (-(m : Int)) = strOfNums (45 :: decI m) := by
  have e : strOfNums (45 :: decI m) = ⟨(45 :: Go.Lib.decDigits m).toArray⟩ := by
    unfold strOfNums decI
    rw [List.map_cons, List.map_map]
    congr 2
    refine congrArg (List.cons (45 : UInt8)) ((List.map_congr_left (g := id) ?_).trans (List.map_id _))
    intro b _
    simp
  rw [e]
  unfold itoaB Go.Lib.itoa
  rw [if_pos (by omega), Int.natAbs_neg, Int.natAbs_natCast]
theorem decWide1 (x0 : Int) (m : Nat) (hm : m ≤ 1000000000000000000) (x3 : List Int) (h3 : x3.length ≤ 1000) (hc : x3 = [] ∨ 0 < m) {r : ByteArray} (h : Ev (fun k => spec_l01Dec.l0 k x0 ((48 + ((m % 10 : Nat) : Int)) :: x3) ((m / 10 : Nat) : Int)) r) : Ev (fun k => spec_l01Dec.l0 k x0 x3 (m : Int)) r := by
  have e1 : Int.tmod (m : Int) 10 = ((m % 10 : Nat) : Int) := by rw [Int.tmod_eq_emod_of_nonneg (by omega)]; omega
  have e2 : Int.tdiv (m : Int) 10 = ((m / 10 : Nat) : Int) := by rw [Int.tdiv_eq_ediv_of_nonneg (by omega)]; omega
  have key : Ev (fun k => spec_l01Dec.j1 k x0 x3 (m : Int) true) r := by
    refine Ev.succ ?_
    simp only [spec_l01Dec.j1]
    rw [e1, e2, wrap_id (x := 48 + ((m % 10 : Nat) : Int)) (by omega) (by omega), wrap_id (x := ((m / 10 : Nat) : Int)) (by omega) (by omega), Int.emod_eq_of_lt (a := 48 + ((m % 10 : Nat) : Int)) (b := 256) (by omega) (by omega)]
    refine Ev.pos (by first | trivial | rfl) (Ev.neg (by omega) (Ev.bnd rfl (Ev.pos (by simp; omega) ?_)))
    exact h
  refine Ev.succ ?_
  simp only [spec_l01Dec.l0]
  rcases hc with rfl | hc
  · exact Ev.pos rfl key
  · by_cases c : (x3.length : Int) = 0
    · exact Ev.pos c key
    · refine Ev.neg c ?_
      rw [show (((m : Int)) != 0) = true from by simp; omega]
      exact key
theorem decWideNeg1 (x0 : Int) (m : Nat) (hm : m ≤ 1000000000000000000) (h0 : 0 < m) (x3 : List Int) (h3 : x3.length ≤ 1000) {r : ByteArray} (h : Ev (fun k => spec_l01Dec.l0 k x0 ((48 + ((m % 10 : Nat) : Int)) :: x3) (-((m / 10 : Nat) : Int))) r) : Ev (fun k => spec_l01Dec.l0 k x0 x3 (-(m : Int))) r := by
  have e1 : Int.tmod (-(m : Int)) 10 = -((m % 10 : Nat) : Int) := by rw [Int.neg_tmod, Int.tmod_eq_emod_of_nonneg (by omega)]; omega
  have e2 : Int.tdiv (-(m : Int)) 10 = -((m / 10 : Nat) : Int) := by rw [Int.neg_tdiv, Int.tdiv_eq_ediv_of_nonneg (by omega)]; omega
  have key : Ev (fun k => spec_l01Dec.j1 k x0 x3 (-(m : Int)) true) r := by
    refine Ev.succ ?_
    simp only [spec_l01Dec.j1]
    rw [e1, e2, wrap_id (x := -(-((m % 10 : Nat) : Int))) (by omega) (by omega), Int.neg_neg, wrap_id (x := 48 + ((m % 10 : Nat) : Int)) (by omega) (by omega), wrap_id (x := -((m / 10 : Nat) : Int)) (by omega) (by omega), Int.emod_eq_of_lt (a := 48 + ((m % 10 : Nat) : Int)) (b := 256) (by omega) (by omega)]
    refine Ev.pos (by first | trivial | rfl) ?_
    by_cases c : -((m % 10 : Nat) : Int) < 0
    · exact Ev.pos c (Ev.bnd rfl (Ev.pos (by simp; omega) h))
    · have z : m % 10 = 0 := by omega
      refine Ev.neg c (Ev.bnd rfl (Ev.pos (by simp; omega) ?_))
      rw [z] at h ⊢
      rw [show (wrap64 (48 + -((0 : Nat) : Int)) % 256 : Int) = 48 + ((0 : Nat) : Int) from by rw [wrap_id (by omega) (by omega)]; omega]
      exact h
  refine Ev.succ ?_
  simp only [spec_l01Dec.l0]
  by_cases c : (x3.length : Int) = 0
  · exact Ev.pos c key
  · refine Ev.neg c ?_
    rw [show ((-(m : Int)) != 0) = true from by simp; omega]
    exact key
theorem decWide (x0 : Int) (h0 : 0 ≤ x0) (d : Nat) : ∀ (m : Nat) (x3 : List Int), m < 10 ^ (d + 1) → d ≤ 16 → x3.length + d ≤ 900 → (x3 = [] ∨ 0 < m) → Ev (fun k => spec_l01Dec.l0 k x0 x3 (m : Int)) (strOfNums (decI m ++ x3)) := by
  induction d with
  | zero =>
    intro m x3 hm _ hl hc
    refine decWide1 x0 m (by omega) x3 (by omega) hc ?_
    have : m / 10 = 0 := by omega
    rw [this, decI_small m (by omega), Nat.mod_eq_of_lt (by omega)]
    exact decEnd x0 h0 _ (by simp)
  | succ d ih =>
    intro m x3 hm hd hl hc
    have h9 : 10 ^ (d + 1 + 1) ≤ 10 ^ 17 := Nat.pow_le_pow_right (by omega) (by omega)
    refine decWide1 x0 m (by omega) x3 (by omega) hc ?_
    by_cases c : m < 10
    · have : m / 10 = 0 := by omega
      rw [this, decI_small m c, Nat.mod_eq_of_lt c]
      exact decEnd x0 h0 _ (by simp)
    · refine Ev.cast (ih (m / 10) _ (by rw [Nat.pow_succ] at hm; omega) (by omega) (by simp; omega) (Or.inr (by omega))) ?_
      rw [decI_step m c, List.append_assoc]; rfl
theorem decEndNeg (x0 : Int) (h0 : x0 < 0) (x3 : List Int) (h3 : x3 ≠ []) (hl : x3.length ≤ 1000) : Ev (fun k => spec_l01Dec.l0 k x0 x3 (-((0 : Nat) : Int))) (strOfNums (45 :: x3)) := by
  refine Ev.succ ?_
  simp only [spec_l01Dec.l0]
  refine Ev.neg (by have := List.length_pos_iff.2 h3; omega) ?_
  refine Ev.succ ?_
  simp only [spec_l01Dec.j1]
  exact Ev.neg (by simp) (Ev.pos h0 (Ev.bnd rfl (Ev.pos (by simp; omega) (Ev.now _))))
theorem decWideNeg (x0 : Int) (h0 : x0 < 0) (d : Nat) : ∀ (m : Nat) (x3 : List Int), m < 10 ^ (d + 1) → d ≤ 16 → x3.length + d ≤ 900 → 0 < m → Ev (fun k => spec_l01Dec.l0 k x0 x3 (-(m : Int))) (strOfNums (45 :: (decI m ++ x3))) := by
  induction d with
  | zero =>
    intro m x3 hm _ hl hc
    refine decWideNeg1 x0 m (by omega) hc x3 (by omega) ?_
    have : m / 10 = 0 := by omega
    rw [this, decI_small m (by omega), Nat.mod_eq_of_lt (by omega)]
    exact decEndNeg x0 h0 _ (by simp) (by simp; omega)
  | succ d ih =>
    intro m x3 hm hd hl hc
    have h9 : 10 ^ (d + 1 + 1) ≤ 10 ^ 17 := Nat.pow_le_pow_right (by omega) (by omega)
    refine decWideNeg1 x0 m (by omega) hc x3 (by omega) ?_
    by_cases c : m < 10
    · have : m / 10 = 0 := by omega
      rw [this, decI_small m c, Nat.mod_eq_of_lt c]
      exact decEndNeg x0 h0 _ (by simp) (by simp; omega)
    · refine Ev.cast (ih (m / 10) _ (by rw [Nat.pow_succ] at hm; omega) (by omega) (by simp; omega) (by omega)) ?_
      rw [decI_step m c, List.append_assoc]; rfl
theorem decSpecW (n : Int) (h0 : -1000000000000000 ≤ n) (h1 : n ≤ 1000000000000000) : Ev (fun k => spec_l01Dec.f k n) (itoaB n) := by
  unfold spec_l01Dec.f
  by_cases c : 0 ≤ n
  · obtain ⟨m, rfl⟩ := Int.eq_ofNat_of_zero_le c
    refine Ev.cast (decWide (m : Int) c 15 m [] (by omega) (by omega) (by simp) (Or.inl rfl)) ?_
    rw [List.append_nil, decI_str, itoaB_nat]
  · obtain ⟨m, hm⟩ := Int.eq_ofNat_of_zero_le (show 0 ≤ -n by omega)
    obtain rfl : n = -(m : Int) := by omega
    refine Ev.cast (decWideNeg (-(m : Int)) (by omega) 15 m [] (by omega) (by omega) (by simp) (by omega)) ?_
    rw [List.append_nil, itoaB_neg m (by omega)]
theorem parse_dec (d : Nat) : ∀ (m : Nat) (r : List UInt8), m < 10 ^ (d + 1) → d ≤ 15 → Go.Lib.parseUintM 18446744073709551615 0 (Go.Lib.decDigits m ++ r) = Go.Lib.parseUintM 18446744073709551615 m r := by
  have one : ∀ (acc u : Nat) (r : List UInt8), u < 10 → acc < 1000000000000000000 → Go.Lib.parseUintM 18446744073709551615 acc (UInt8.ofNat (48 + u) :: r) = Go.Lib.parseUintM 18446744073709551615 (acc * 10 + u) r := by
    intro acc u r hu ha
    have e : (UInt8.ofNat (48 + u)).toNat = 48 + u := by rw [UInt8.toNat_ofNat']; omega
    rw [Go.Lib.parseUintM, e, if_pos (by omega), if_neg (by omega), if_neg (by omega), show 48 + u - 48 = u from by omega]
  induction d with
  | zero =>
    intro m r hm _
    rw [Go.Lib.decDigits, dif_pos (by omega), List.singleton_append, one 0 m r (by omega) (by omega), Nat.zero_mul, Nat.zero_add]
  | succ d ih =>
    intro m r hm hd
    rw [Go.Lib.decDigits]
    by_cases c : m < 10
    · rw [dif_pos c, List.singleton_append, one 0 m r (by omega) (by omega), Nat.zero_mul, Nat.zero_add]
    · have h9 : 10 ^ (d + 1 + 1) ≤ 10 ^ 17 := Nat.pow_le_pow_right (by omega) (by omega)
      rw [dif_neg c, List.append_assoc, ih (m / 10) _ (by rw [Nat.pow_succ] at hm; omega) (by omega), List.singleton_append, one (m / 10) (m % 10) r (by omega) (by omega)]
      congr 1
      omega
theorem dec_head (d : Nat) : ∀ m : Nat, m < 10 ^ (d + 1) → ∃ c r, Go.Lib.decDigits m = c :: r ∧ 48 ≤ c.toNat ∧ c.toNat ≤ 57 := by
  induction d with
  | zero =>
    intro m hm
    rw [Go.Lib.decDigits, dif_pos (by omega)]
    exact ⟨_, _, rfl, by rw [UInt8.toNat_ofNat']; omega, by rw [UInt8.toNat_ofNat']; omega⟩
  | succ d ih =>
    intro m hm
    rw [Go.Lib.decDigits]
    by_cases c : m < 10
    · rw [dif_pos c]
      exact ⟨_, _, rfl, by rw [UInt8.toNat_ofNat']; omega, by rw [UInt8.toNat_ofNat']; omega⟩
    · obtain ⟨a, r, h, h1, h2⟩ := ih (m / 10) (by rw [Nat.pow_succ] at hm; omega)
      rw [dif_neg c, h]
      exact ⟨a, _, rfl, h1, h2⟩
theorem parse_uint (m : Nat) (h : m ≤ 1000000000000000) : Go.Lib.parseUintB 64 (Go.Lib.decDigits m) = .ok m := by
  obtain ⟨c, r, hc, _, _⟩ := dec_head 15 m (by omega)
  unfold Go.Lib.parseUintB
  rw [if_neg (by rw [hc]; simp), show (2 ^ 64 - 1 : Nat) = 18446744073709551615 from rfl]
  have := parse_dec 15 m [] (by omega) (by omega)
  rw [List.append_nil] at this
  rw [this]; rfl
theorem parse_itoa (n : Int) (h0 : -1000000000000000 ≤ n) (h1 : n ≤ 1000000000000000) : Go.Lib.parseIntB 64 (Go.Lib.itoa n) = .ok n := by
  by_cases c : 0 ≤ n
  · obtain ⟨m, rfl⟩ := Int.eq_ofNat_of_zero_le c
    obtain ⟨a, r, ha, h2, h3⟩ := dec_head 15 m (by omega)
    unfold Go.Lib.itoa
    rw [if_neg (by omega), Int.toNat_natCast]
    have hu := parse_uint m (by omega)
    rw [ha] at hu ⊢
    rw [Go.Lib.parseIntB_plain 64 a r (by omega) (by omega), hu]
    show (if 2 ^ (64 - 1) ≤ m then Go.Lib.NumEnd.range else Go.Lib.NumEnd.ok (m : Int)) = _
    rw [if_neg (by have : (2 ^ (64 - 1) : Nat) = 9223372036854775808 := rfl; omega)]
  · obtain ⟨m, hm⟩ := Int.eq_ofNat_of_zero_le (show 0 ≤ -n by omega)
    obtain rfl : n = -(m : Int) := by omega
    unfold Go.Lib.itoa
    rw [if_pos (by omega), Int.natAbs_neg, Int.natAbs_natCast, Go.Lib.parseIntB_minus, parse_uint m (by omega)]
    show (if 2 ^ (64 - 1) < m then Go.Lib.NumEnd.range else Go.Lib.NumEnd.ok (-(m : Int))) = _
    rw [if_neg (by have : (2 ^ (64 - 1) : Nat) = 9223372036854775808 := rfl; omega)]
/-- The number with this text, if it is one of at most 10^15. -/
noncomputable def decTold (s : ByteArray) : Int × Bool := @dite _ (∃ n : Int, -1000000000000000 ≤ n ∧ n ≤ 1000000000000000 ∧ itoaB n = s) (Classical.propDecidable _) (fun h => (h.choose, true)) (fun _ => (0, false))
theorem itoaB_list (n : Int) : (itoaB n).data.toList = Go.Lib.itoa n := by unfold itoaB; simp
theorem told_yes {n : Int} (h0 : -1000000000000000 ≤ n) (h1 : n ≤ 1000000000000000) : decTold (itoaB n) = (n, true) := by
  have h : ∃ m : Int, -1000000000000000 ≤ m ∧ m ≤ 1000000000000000 ∧ itoaB m = itoaB n := ⟨n, h0, h1, rfl⟩
  unfold decTold
  rw [dif_pos h]
  have hc := h.choose_spec
  have e : Go.Lib.itoa h.choose = Go.Lib.itoa n := by rw [← itoaB_list, ← itoaB_list, hc.2.2]
  have p1 := parse_itoa _ hc.1 hc.2.1
  have p2 := parse_itoa n h0 h1
  rw [e, p2] at p1
  injection p1 with p1
  rw [← p1]
theorem told_no {s : ByteArray} (h : ∀ n : Int, -1000000000000000 ≤ n → n ≤ 1000000000000000 → itoaB n ≠ s) : decTold s = (0, false) := by
  unfold decTold
  rw [dif_neg]
  rintro ⟨n, h0, h1, e⟩
  exact h n h0 h1 e
theorem told_other {s : ByteArray} (h : ∀ n : Int, -1000000000000000 ≤ n → n ≤ 1000000000000000 → Go.Lib.parseIntB 64 s.data.toList ≠ .ok n) : decTold s = (0, false) := by
  refine told_no (fun n h0 h1 e => h n h0 h1 ?_)
  rw [← e, itoaB_list]
  exact parse_itoa n h0 h1
theorem implDec (s : ByteArray) (hs : s.size ≤ 281474976710656) : impl_ReadDecimal.f s = some (decTold s) := by
  unfold impl_ReadDecimal.f
  rw [if_pos hs]
  cases hp : Go.Lib.parseIntB 64 s.data.toList with
  | «syntax» => exact congrArg some (told_other (fun n _ _ h => by rw [hp] at h; cases h)).symm
  | range => exact congrArg some (told_other (fun n _ _ h => by rw [hp] at h; cases h)).symm
  | ok v =>
    have hv := Go.Lib.parseIntB_bounds hp
    have e63 : (2 ^ (64 - 1) : Nat) = 9223372036854775808 := rfl
    rw [e63] at hv
    show (impl_isValue.f v).bind _ = _
    unfold impl_isValue.f
    rw [within v (-1000000000000000) 1000000000000000, Option.bind_some, Option.bind_some]
    by_cases c : -1000000000000000 ≤ v ∧ v ≤ 1000000000000000
    · rw [if_pos (decide_eq_true c)]
      have hd : impl_Decimal.f v = some (itoaB v) := by
        unfold impl_Decimal.f strconv_FormatInt.f
        rw [if_pos rfl, if_pos (by omega), if_pos (by omega), Option.bind_some]
        rfl
      rw [hd, Option.bind_some]
      by_cases g : (itoaB v).toList = s.toList
      · rw [if_pos g]
        have e : itoaB v = s := by
          rw [Go.Lib.toList_data, Go.Lib.toList_data] at g
          apply ByteArray.ext
          exact Array.toList_inj.1 g
        rw [← e, told_yes c.1 c.2]
      · rw [if_neg g]
        refine congrArg some (told_no (fun n h0 h1 e => ?_)).symm
        have h2 := parse_itoa n h0 h1
        rw [← itoaB_list, e, hp] at h2
        injection h2 with h2
        subst h2
        exact g (congrArg ByteArray.toList e)
    · rw [if_neg (by rw [decide_eq_true_eq]; exact c)]
      refine congrArg some (told_other (fun n h0 h1 h => ?_)).symm
      rw [hp] at h
      injection h with h
      subst h
      exact c ⟨h0, h1⟩
def stepD (a : Nat) (c : UInt8) : Nat := if 48 ≤ c.toNat ∧ c.toNat ≤ 57 then a * 10 + (c.toNat - 48) else a
theorem fold_dec (d : Nat) : ∀ (m : Nat), m < 10 ^ (d + 1) → (Go.Lib.decDigits m).foldl stepD 0 = m := by
  have one : ∀ (a u : Nat), u < 10 → stepD a (UInt8.ofNat (48 + u)) = a * 10 + u := by
    intro a u hu
    have e : (UInt8.ofNat (48 + u)).toNat = 48 + u := by rw [UInt8.toNat_ofNat']; omega
    unfold stepD
    rw [e, if_pos (by omega)]
    omega
  induction d with
  | zero =>
    intro m hm
    rw [Go.Lib.decDigits, dif_pos (by omega), List.foldl_cons, List.foldl_nil, one 0 m (by omega)]
    omega
  | succ d ih =>
    intro m hm
    rw [Go.Lib.decDigits]
    by_cases c : m < 10
    · rw [dif_pos c, List.foldl_cons, List.foldl_nil, one 0 m (by omega)]; omega
    · rw [dif_neg c, List.foldl_append, ih (m / 10) (by rw [Nat.pow_succ] at hm; omega), List.foldl_cons, List.foldl_nil, one _ (m % 10) (by omega)]
      omega
theorem stepD_bound (l : List UInt8) : ∀ a : Nat, l.foldl stepD a < (a + 1) * 10 ^ l.length := by
  induction l with
  | nil => intro a; simp
  | cons c l ih =>
    intro a
    rw [List.foldl_cons, List.length_cons, Nat.pow_succ]
    refine Nat.lt_of_lt_of_le (ih _) ?_
    have h : stepD a c + 1 ≤ (a + 1) * 10 := by
      unfold stepD
      split <;> omega
    calc (stepD a c + 1) * 10 ^ l.length ≤ (a + 1) * 10 * 10 ^ l.length := Nat.mul_le_mul_right _ h
      _ = (a + 1) * (10 ^ l.length * 10) := by rw [Nat.mul_assoc, Nat.mul_comm 10]
def foldAt (s : ByteArray) (i : Nat) : Nat := (s.data.toList.take i).foldl stepD 0
theorem foldAt_succ (s : ByteArray) (i : Nat) (h : i < s.size) : foldAt s (i + 1) = if 48 ≤ bt s (i : Int) ∧ bt s (i : Int) ≤ 57 then foldAt s i * 10 + (bt s (i : Int) - 48).toNat else foldAt s i := by
  have h' : i < s.data.toList.length := by rw [Array.length_toList]; exact h
  unfold foldAt
  rw [List.take_succ_eq_append_getElem h', List.foldl_append, List.foldl_cons, List.foldl_nil, bt_at s i h]
  have e : s.data.toList[i] = s[i] := rfl
  rw [e]
  unfold stepD
  by_cases c : 48 ≤ s[i].toNat ∧ s[i].toNat ≤ 57
  · rw [if_pos c, if_pos (by omega)]; omega
  · rw [if_neg c, if_neg (by omega)]
theorem foldAt_bound (s : ByteArray) (i : Nat) (hi : i ≤ 17) : foldAt s i < 100000000000000000 := by
  have h := stepD_bound (s.data.toList.take i) 0
  have hl : (s.data.toList.take i).length ≤ 17 := by rw [List.length_take]; omega
  have h9 : 10 ^ (s.data.toList.take i).length ≤ 10 ^ 17 := Nat.pow_le_pow_right (by omega) hl
  unfold foldAt
  omega
theorem itoaB_size (n : Int) (h0 : -1000000000000000 ≤ n) (h1 : n ≤ 1000000000000000) : 1 ≤ (itoaB n).size ∧ (itoaB n).size ≤ 17 := by
  have e : (itoaB n).size = (Go.Lib.itoa n).length := by rw [← itoaB_list, Array.length_toList]; rfl
  rw [e]
  unfold Go.Lib.itoa
  by_cases c : n < 0
  · have := decLen 15 n.natAbs (by omega)
    rw [if_pos c, List.length_cons]; omega
  · have := decLen 15 n.toNat (by omega)
    rw [if_neg c]; omega
/-- The number that the digits spell, with the sign. -/
def valOf (s : ByteArray) : Int := if bt s 0 = 45 then -(foldAt s s.size : Int) else (foldAt s s.size : Int)
theorem valOf_itoa (n : Int) (h0 : -1000000000000000 ≤ n) (h1 : n ≤ 1000000000000000) : valOf (itoaB n) = n := by
  have hz := itoaB_size n h0 h1
  have hf : foldAt (itoaB n) (itoaB n).size = (Go.Lib.itoa n).foldl stepD 0 := by
    unfold foldAt
    rw [List.take_of_length_le (by rw [Array.length_toList]; exact Nat.le_refl _), itoaB_list]
  have hb : ∀ c r, Go.Lib.itoa n = c :: r → bt (itoaB n) 0 = (c.toNat : Int) := by
    intro c r h
    have := (at_iff (itoaB n) 0 c).1 (by rw [itoaB_list, h]; rfl)
    exact this.2
  unfold valOf
  rw [hf]
  by_cases c : 0 ≤ n
  · obtain ⟨m, rfl⟩ := Int.eq_ofNat_of_zero_le c
    obtain ⟨a, r, ha, h2, h3⟩ := dec_head 15 m (by omega)
    have hi : Go.Lib.itoa (m : Int) = Go.Lib.decDigits m := by unfold Go.Lib.itoa; rw [if_neg (by omega), Int.toNat_natCast]
    have hb' := hb a r (by rw [hi, ha])
    rw [if_neg (by omega), hi, fold_dec 15 m (by omega)]
  · obtain ⟨m, hm⟩ := Int.eq_ofNat_of_zero_le (show 0 ≤ -n by omega)
    obtain rfl : n = -(m : Int) := by omega
    have hi : Go.Lib.itoa (-(m : Int)) = 45 :: Go.Lib.decDigits m := by unfold Go.Lib.itoa; rw [if_pos (by omega), Int.natAbs_neg, Int.natAbs_natCast]
    have hb' : bt (itoaB (-(m : Int))) 0 = 45 := hb 45 _ hi
    rw [if_pos hb', hi, List.foldl_cons, show stepD 0 45 = 0 from rfl, fold_dec 15 m (by omega)]
theorem specVal (s : ByteArray) : Ev (fun k => spec_l01Value.f k s) (decTold s) := by
  unfold spec_l01Value.f
  by_cases c1 : (s.size : Int) < 1
  · refine Ev.pos c1 (Ev.succ ?_)
    simp only [spec_l01Value.j0]
    refine Ev.pos (by first | trivial | rfl) (Ev.val (congrArg some (told_no (fun n h0 h1 e => ?_)).symm))
    have := itoaB_size n h0 h1
    rw [e] at this
    omega
  · refine Ev.neg c1 (Ev.succ ?_)
    simp only [spec_l01Value.j0]
    by_cases c2 : (s.size : Int) > 17
    · refine Ev.pos (by first | exact decide_eq_true c2 | exact c2) (Ev.val (congrArg some (told_no (fun n h0 h1 e => ?_)).symm))
      have := itoaB_size n h0 h1
      rw [e] at this
      omega
    · refine Ev.neg (by first | (rw [decide_eq_true_eq]; exact c2) | exact c2) ?_
      have hv : ∀ n : Int, -1000000000000000 ≤ n → n ≤ 1000000000000000 → itoaB n = s → valOf s = n := fun n h0 h1 e => by rw [← e]; exact valOf_itoa n h0 h1
      have fin : Ev (fun k => spec_l01Value.j2 k s (valOf s)) (decTold s) := by
        refine Ev.succ ?_
        simp only [spec_l01Value.j2]
        by_cases c : -1000000000000000 ≤ valOf s ∧ valOf s ≤ 1000000000000000
        · refine Ev.bnd (a := true) (by unfold spec_l00In.f; rw [if_pos (by omega), decide_eq_true c.2]) (Ev.pos (by first | trivial | rfl) (Ev.bind (decSpecW _ c.1 c.2) ?_))
          by_cases g : (itoaB (valOf s)).toList = s.toList
          · have e : itoaB (valOf s) = s := by
              rw [Go.Lib.toList_data, Go.Lib.toList_data] at g
              apply ByteArray.ext
              exact Array.toList_inj.1 g
            refine Ev.pos g (Ev.val (congrArg some ?_))
            have := told_yes c.1 c.2
            rw [e] at this
            exact this.symm
          · refine Ev.neg g (Ev.val (congrArg some (told_no (fun n h0 h1 e => ?_)).symm))
            rw [hv n h0 h1 e] at g
            exact g (congrArg ByteArray.toList e)
        · refine Ev.bnd (a := false) (by
            unfold spec_l00In.f
            by_cases d : valOf s ≥ -1000000000000000
            · rw [if_pos d, decide_eq_false (by omega)]
            · rw [if_neg d]) (Ev.neg (by simp) (Ev.val (congrArg some (told_no (fun n h0 h1 e => ?_)).symm)))
          rw [hv n h0 h1 e] at c
          exact c ⟨h0, h1⟩
      refine Ev.upto s.size (fun _ => True) (fun i => (foldAt s i : Int)) (decTold s) (fun k x i => spec_l01Value.l0 k s x i) (fun i hi _ ih => ?_) (fun _ => ?_) trivial
      · have hf := foldAt_bound s i (by omega)
        have hb := bt_in s (i : Int)
        have ih := ih trivial
        rw [foldAt_succ s i hi] at ih
        refine Ev.succ ?_
        simp only [spec_l01Value.l0]
        rw [wrap_id (x := (i : Int) + 1) (by omega) (by omega)]
        refine Ev.pos (by omega) (Ev.pos (by omega) ?_)
        by_cases g : bt s (i : Int) ≥ 48
        · refine Ev.pos g ?_
          by_cases g2 : bt s (i : Int) ≤ 57
          · refine Ev.pos g2 ?_
            rw [if_pos ⟨g, g2⟩] at ih
            rw [wrap_id (x := 10 * (foldAt s i : Int)) (by omega) (by omega), Int.emod_eq_of_lt (a := bt s (i : Int) - 48) (b := 256) (by omega) (by omega), wrap_id (by omega) (by omega), show 10 * (foldAt s i : Int) + (bt s (i : Int) - 48) = ((foldAt s i * 10 + (bt s (i : Int) - 48).toNat : Nat) : Int) from by omega]
            exact ih
          · refine Ev.neg g2 ?_
            rw [if_neg (by omega)] at ih
            exact ih
        · refine Ev.neg g ?_
          rw [if_neg (by omega)] at ih
          exact ih
      · have hf := foldAt_bound s s.size (by omega)
        unfold valOf at fin
        refine Ev.succ ?_
        simp only [spec_l01Value.l0]
        refine Ev.neg (by omega) (Ev.pos (by omega) ?_)
        by_cases g : bt s 0 = 45
        · rw [if_pos g] at fin
          rw [wrap_id (x := -(foldAt s s.size : Int)) (by omega) (by omega)]
          exact Ev.pos g fin
        · rw [if_neg g] at fin
          exact Ev.neg g fin

/-- The numbers of the pieces, if each is one. -/
noncomputable def numT : List ByteArray → List Int → List Int × Bool
  | [], acc => (acc, true)
  | x :: r, acc => if (decTold x).2 = true then numT r (acc ++ [(decTold x).1]) else ([], false)
theorem numT_len (W : List ByteArray) : ∀ acc : List Int, (numT W acc).2 = true → (numT W acc).1.length = acc.length + W.length := by
  induction W with
  | nil => intro acc _; rfl
  | cons x r ih =>
    intro acc h
    unfold numT at h ⊢
    by_cases c : (decTold x).2 = true
    · rw [if_pos c] at h ⊢
      rw [ih _ h]; simp; omega
    · rw [if_neg c] at h; exact absurd h (by simp)
theorem numSpec (W : List ByteArray) (hW : W.length ≤ 2000000) (d : Nat) : ∀ (i : Nat) (acc : List Int), i + d = W.length → acc.length = i → Ev (fun k => spec_l01Numbers.l0 k acc W (i : Int)) (numT (W.drop i) acc) := by
  induction d with
  | zero =>
    intro i acc hi ha
    obtain rfl : i = W.length := by omega
    rw [List.drop_length]
    refine Ev.succ ?_
    simp only [spec_l01Numbers.l0]
    exact Ev.neg (by omega) (Ev.now _)
  | succ d ih =>
    intro i acc hi ha
    have hl : i < W.length := by omega
    rw [List.drop_eq_getElem_cons hl]
    refine Ev.succ ?_
    simp only [spec_l01Numbers.l0]
    rw [rdB_lt W i hl, wrap_id (x := (i : Int) + 1) (by omega) (by omega)]
    refine Ev.pos (by omega) (Ev.pos (by omega) (Ev.bind (specVal _) ?_))
    unfold numT
    by_cases c : (decTold W[i]).2 = true
    · rw [if_pos c]
      exact Ev.pos c (Ev.pos (by omega) (ih (i + 1) _ (by omega) (by simp; omega)))
    · rw [if_neg c]
      exact Ev.neg c (Ev.now _)
theorem numImpl (W : List ByteArray) (hW : W.length ≤ 2000000) (hs : ∀ x ∈ W, x.size ≤ 281474976710656) (d : Nat) : ∀ (i : Nat) (acc : List Int), i + d = W.length → acc.length = i → Ev (fun k => impl_readList.l0 k acc W (W.length : Int) (i : Int)) (numT (W.drop i) acc) := by
  induction d with
  | zero =>
    intro i acc hi ha
    obtain rfl : i = W.length := by omega
    rw [List.drop_length]
    refine Ev.succ ?_
    simp only [impl_readList.l0]
    exact Ev.neg (by omega) (Ev.now _)
  | succ d ih =>
    intro i acc hi ha
    have hl : i < W.length := by omega
    rw [List.drop_eq_getElem_cons hl]
    refine Ev.succ ?_
    simp only [impl_readList.l0]
    rw [rdB_lt W i hl, wrap_id (x := (i : Int) + 1) (by omega) (by omega)]
    refine Ev.pos (by omega) (Ev.pos (by omega) (Ev.pos (by omega) (Ev.bnd (implDec _ (hs _ (List.getElem_mem hl))) ?_)))
    unfold numT
    by_cases c : (decTold W[i]).2 = true
    · rw [if_pos c]
      exact Ev.pos c (Ev.pos (by omega) (ih (i + 1) _ (by omega) (by simp; omega)))
    · rw [if_neg c]
      exact Ev.neg c (Ev.now _)
theorem pieces_small {s : ByteArray} {m : UInt8} {p : Nat} {L : List ByteArray} {e : Nat} (h : Lines s m p L e) : ∀ x ∈ L, x.size ≤ s.size := by
  induction h with
  | last p h _ => intro x hx; cases hx
  | line p q e L h hq _ _ _ ih =>
    intro x hx
    rcases List.mem_cons.1 hx with rfl | hx
    · rw [ByteArray.size_extract]; omega
    · exact ih x hx
theorem numbers (s : ByteArray) (hs : s.size ≤ 1048576) : ∃ r : List Int × Bool, Ev (fun k => spec_l01Numbers.f k s) r ∧ Ev (fun k => impl_ReadList.f k s) r ∧ r.1.length ≤ 64 := by
  by_cases c : s.toList = ([110, 111, 110, 101] : List UInt8)
  · refine ⟨([], true), ?_, ?_, by simp⟩
    · unfold spec_l01Numbers.f
      exact Ev.bnd rfl (Ev.pos c (Ev.now _))
    · unfold impl_ReadList.f
      refine Ev.bind (a := ([], true)) ?_ (Ev.pos rfl (Ev.neg (by simp) (Ev.now _)))
      unfold impl_readList.f
      refine Ev.bnd (a := []) (by unfold impl_pieces.f; rw [if_pos c]) ?_
      exact numImpl [] (by simp) (by simp) 0 0 [] rfl rfl
  · obtain ⟨L, e, hL⟩ := lines_ex s 44 s.size 0 (by omega) (by omega)
    have hl := lines_len hL
    have hcut : Ev (fun k => spec_l01Cut.f k s 44) (L ++ [s.extract e s.size]) := cutAll hs hL
    have hsp := splitLines hL
    rw [show s.extract 0 s.size = s from ByteArray.extract_zero_size] at hsp
    have hW : (L ++ [s.extract e s.size]).length ≤ 2000000 := by simp; omega
    have hx : ∀ x ∈ L ++ [s.extract e s.size], x.size ≤ 281474976710656 := by
      intro x hx
      rcases List.mem_append.1 hx with hx | hx
      · have := pieces_small hL x hx; omega
      · obtain rfl := List.mem_singleton.1 hx
        rw [ByteArray.size_extract]; omega
    generalize L ++ [s.extract e s.size] = W at hcut hsp hW hx
    have hp : impl_pieces.f s = some W := by
      unfold impl_pieces.f strings_Split.f
      have h1 : (⟨#[44]⟩ : ByteArray).size = 1 := rfl
      rw [if_neg c, if_pos (by omega), if_pos (by rw [h1]; exact Nat.le_refl _), Option.bind_some, hsp]
    have hi : Ev (fun k => impl_readList.f k s) (numT W []) := by
      unfold impl_readList.f
      exact Ev.bnd hp (numImpl W hW hx W.length 0 [] (by omega) rfl)
    by_cases c2 : (W.length : Int) > 64
    · refine ⟨([], false), ?_, ?_, by simp⟩
      · unfold spec_l01Numbers.f
        exact Ev.bnd rfl (Ev.neg c (Ev.bind hcut (Ev.pos c2 (Ev.now _))))
      · unfold impl_ReadList.f
        refine Ev.bind hi ?_
        by_cases g : (numT W []).2 = true
        · have := numT_len W [] g
          exact Ev.pos g (Ev.pos (by rw [this]; simp; omega) (Ev.now _))
        · exact Ev.neg g (Ev.now _)
    · by_cases g : (numT W []).2 = true
      · have hn := numT_len W [] g
        rw [List.length_nil, Nat.zero_add] at hn
        refine ⟨((numT W []).1, true), ?_, ?_, by show (numT W []).1.length ≤ 64; omega⟩
        · unfold spec_l01Numbers.f
          refine Ev.bnd rfl (Ev.neg c (Ev.bind hcut (Ev.neg c2 (Ev.cast (numSpec W hW W.length 0 [] (by omega) rfl) ?_))))
          exact Prod.ext rfl g
        · unfold impl_ReadList.f
          exact Ev.bind hi (Ev.pos g (Ev.neg (by omega) (Ev.now _)))
      · have hf : numT W [] = ([], false) := by
          have : ∀ (V : List ByteArray) (acc : List Int), ¬ (numT V acc).2 = true → numT V acc = ([], false) := by
            intro V
            induction V with
            | nil => intro acc h; exact absurd rfl h
            | cons x r ih =>
              intro acc h
              unfold numT at h ⊢
              by_cases d : (decTold x).2 = true
              · rw [if_pos d] at h ⊢; exact ih _ h
              · rw [if_neg d]
          exact this W [] g
        refine ⟨([], false), ?_, ?_, by simp⟩
        · unfold spec_l01Numbers.f
          exact Ev.bnd rfl (Ev.neg c (Ev.bind hcut (Ev.neg c2 (Ev.cast (numSpec W hW W.length 0 [] (by omega) rfl) hf))))
        · unfold impl_ReadList.f
          exact Ev.bind hi (Ev.neg g (Ev.now _))

/-- The bytes of a text. -/
theorem bytesOf_len (s : ByteArray) : (bytesOf s).length = s.size := by
  unfold bytesOf
  rw [List.length_map, Array.length_toList]
  rfl
theorem bytesOf_get (s : ByteArray) (i : Nat) (h : i < (bytesOf s).length) : (bytesOf s)[i] = bt s (i : Int) := by
  have hs : i < s.size := by rwa [bytesOf_len] at h
  have hl : i < s.data.size := hs
  unfold bt
  rw [dif_pos (by rw [Int.toNat_natCast]; exact hs)]
  simp only [bytesOf, List.getElem_map, Array.getElem_toList]
  rfl
theorem bytesOf_range (s : ByteArray) : ∀ x ∈ bytesOf s, 0 ≤ x ∧ x ≤ 255 := by
  intro x hx
  unfold bytesOf at hx
  rw [List.mem_map] at hx
  obtain ⟨b, _, rfl⟩ := hx
  have : b.toNat < 256 := b.toNat_lt
  omega

/-- What digits tell. -/
def digitsTold (l : List Int) : List Int × Bool := if allIn l 48 57 = true then (l.map fun x => x - 48, true) else ([], false)
theorem digitsTold_in (l : List Int) : ∀ x ∈ (digitsTold l).1, 0 ≤ x ∧ x ≤ 9 := by
  intro x hx
  unfold digitsTold at hx
  split at hx
  · rename_i c
    simp only [List.mem_map] at hx
    obtain ⟨y, hy, rfl⟩ := hx
    have := allIn_iff.1 c y hy
    omega
  · simp at hx
theorem digitsTold_len (l : List Int) : (digitsTold l).1.length ≤ l.length := by
  unfold digitsTold
  split <;> simp
theorem digits_succ (l : List Int) (i : Nat) (h : i < l.length) : (l.take i).map (fun x => x - 48) ++ [l[i] - 48] = (l.take (i + 1)).map fun x => x - 48 := by
  rw [List.take_succ_eq_append_getElem h, List.map_append, List.map_singleton]
theorem readSpec (s : ByteArray) (hl : s.size ≤ 17592186044415) : Ev (fun k => spec_l08Read.f k s) (digitsTold (bytesOf s)) := by
  unfold spec_l08Read.f
  have hn := bytesOf_len s
  refine Ev.congr (fun k => ?_) (Ev.upto (bytesOf s).length (fun i => ∀ j, (hj : j < (bytesOf s).length) → j < i → 48 ≤ (bytesOf s)[j] ∧ (bytesOf s)[j] ≤ 57) (fun i => ((bytesOf s).take i).map fun x => x - 48) (digitsTold (bytesOf s)) (fun k l i => spec_l08Read.l0 k s l i) (fun i hi hp ih => ?_) (fun hp => ?_) (fun j hj h => by omega))
  · simp
  · refine Ev.succ ?_
    simp only [spec_l08Read.l0]
    have e := bytesOf_get s i hi
    have hx := bytesOf_range s _ (List.getElem_mem hi)
    rw [← e]
    refine Ev.pos (by omega) (Ev.pos (by omega) ?_)
    by_cases c : (bytesOf s)[i] < 48
    · exact Ev.pos c (Ev.val (by unfold digitsTold; rw [allIn_false i hi (by omega), if_neg (by simp)]))
    · refine Ev.neg c ?_
      by_cases c2 : (bytesOf s)[i] > 57
      · exact Ev.pos c2 (Ev.val (by unfold digitsTold; rw [allIn_false i hi (by omega), if_neg (by simp)]))
      · refine Ev.neg c2 (Ev.pos (by rw [List.length_map, List.length_take]; omega) ?_)
        rw [wrap_id (x := (i : Int) + 1) (by omega) (by omega), Int.emod_eq_of_lt (a := (bytesOf s)[i] - 48) (b := 256) (by omega) (by omega), digits_succ _ i hi]
        exact ih (upTo_succ (p := fun x => 48 ≤ x ∧ x ≤ 57) hi hp (by omega))
  · refine Ev.succ ?_
    simp only [spec_l08Read.l0]
    refine Ev.neg (by omega) (Ev.val ?_)
    unfold digitsTold
    rw [allIn_true (fun j hj => hp j hj hj), if_pos rfl, List.take_length]
theorem readImpl (s : ByteArray) (hl : s.size ≤ 17592186044415) : Ev (fun k => impl_readDigits.f k s) (digitsTold (bytesOf s)) := by
  unfold impl_readDigits.f
  have hn := bytesOf_len s
  refine Ev.pos (by omega) (Ev.bnd rfl ?_)
  refine Ev.congr (fun k => ?_) (Ev.upto (bytesOf s).length (fun i => ∀ j, (hj : j < (bytesOf s).length) → j < i → 48 ≤ (bytesOf s)[j] ∧ (bytesOf s)[j] ≤ 57) (fun i => ((bytesOf s).take i).map fun x => x - 48) (digitsTold (bytesOf s)) (fun k l i => impl_readDigits.l0 k l (bytesOf s) (bytesOf s).length i) (fun i hi hp ih => ?_) (fun hp => ?_) (fun j hj h => by omega))
  · simp
  · refine Ev.succ ?_
    simp only [impl_readDigits.l0]
    have hx := bytesOf_range s _ (List.getElem_mem hi)
    rw [rd_lt (bytesOf s) i hi]
    refine Ev.pos (by omega) (Ev.pos (by omega) (Ev.pos (by omega) ?_))
    by_cases c : (bytesOf s)[i] < 48
    · exact Ev.pos c (Ev.val (by unfold digitsTold; rw [allIn_false i hi (by omega), if_neg (by simp)]))
    · refine Ev.neg c ?_
      by_cases c2 : (bytesOf s)[i] > 57
      · exact Ev.pos c2 (Ev.val (by unfold digitsTold; rw [allIn_false i hi (by omega), if_neg (by simp)]))
      · refine Ev.neg c2 (Ev.pos (by rw [List.length_map, List.length_take]; omega) ?_)
        rw [wrap_id (x := (i : Int) + 1) (by omega) (by omega), Int.emod_eq_of_lt (a := (bytesOf s)[i] - 48) (b := 256) (by omega) (by omega), digits_succ _ i hi]
        exact ih (upTo_succ (p := fun x => 48 ≤ x ∧ x ≤ 57) hi hp (by omega))
  · refine Ev.succ ?_
    simp only [impl_readDigits.l0]
    refine Ev.neg (by omega) (Ev.val ?_)
    unfold digitsTold
    rw [allIn_true (fun j hj => hp j hj hj), if_pos rfl, List.take_length]

theorem ext_list' (s : ByteArray) (a b : Nat) : (s.extract a b).data.toList = (s.data.toList.take b).drop a := by
  rw [ByteArray.data_extract, Array.toList_extract, List.extract_eq_take_drop, List.drop_take]
theorem mk_list' {s : ByteArray} {l : List UInt8} (h : s.data.toList = l) : (⟨l.toArray⟩ : ByteArray) = s := by
  subst h
  apply ByteArray.ext
  simp
theorem cutAt_hit {l : ByteArray} {m : UInt8} (hl : l.size ≤ 1048576) {e : Nat} (he : e < l.size) (hn : ∀ j : Nat, j < e → bt l (j : Int) ≠ (m.toNat : Int)) (hc : bt l (e : Int) = (m.toNat : Int)) : strings_Cut.f l (⟨#[m]⟩ : ByteArray) = some (l.extract 0 e, l.extract (e + 1) l.size, true) := by
  unfold strings_Cut.f
  rw [if_pos (by omega), show ((⟨#[m]⟩ : ByteArray).data.toList) = [m] from rfl]
  unfold Go.Lib.cut
  rw [Go.Lib.index_one, idx_hit l m e he hn hc, if_pos (by omega)]
  simp only [Int.toNat_natCast, List.length_cons, List.length_nil, Nat.zero_add]
  rw [mk_list' (s := l.extract 0 e) (by rw [ext_list', List.drop_zero]), mk_list' (s := l.extract (e + 1) l.size) (by rw [ext_list', List.take_of_length_le (by rw [Array.length_toList]; exact Nat.le_refl _)])]
theorem cutAt_none {l : ByteArray} {m : UInt8} (hl : l.size ≤ 1048576) (hn : ∀ j : Nat, j < l.size → bt l (j : Int) ≠ (m.toNat : Int)) : strings_Cut.f l (⟨#[m]⟩ : ByteArray) = some (l, ⟨#[]⟩, false) := by
  unfold strings_Cut.f
  rw [if_pos (by omega), show ((⟨#[m]⟩ : ByteArray).data.toList) = [m] from rfl]
  unfold Go.Lib.cut
  rw [Go.Lib.index_one, idx_none l m hn, if_neg (by omega)]
theorem headed (s : ByteArray) (hs : s.size ≤ 1048576) : ∃ r : Int × Int × List Int × Bool, Ev (fun k => spec_l08Two.f k s) r ∧ Ev (fun k => impl_readHeaded.f k s) r ∧ r.2.2.1.length ≤ 1048576 := by
  obtain ⟨L, e, hL⟩ := lines_ex s 59 s.size 0 (by omega) (by omega)
  have hcut : Ev (fun k => spec_l01Cut.f k s 59) (L ++ [s.extract e s.size]) := cutAll hs hL
  cases hL with
  | last _ _ hn =>
    obtain ⟨r, _, r2, _⟩ := numbers s hs
    refine ⟨(0, 0, [], false), ?_, ?_, by simp⟩
    · unfold spec_l08Two.f
      exact Ev.bind hcut (Ev.neg (by simp) (Ev.now _))
    · unfold impl_readHeaded.f
      refine Ev.bnd (cutAt_none (m := 59) hs (fun j hj => hn j (by omega) hj)) (Ev.bind r2 (Ev.bind (readImpl _ (by show 0 ≤ _; omega)) (Ev.neg (by simp) (Ev.now _))))
  | line _ q _ L' h hq hn he ht =>
    have hsz : (s.extract (q + 1) s.size).size ≤ 1048576 := by rw [ext_sz _ _ _ (Nat.le_refl _)]; omega
    have hsz0 : (s.extract 0 q).size ≤ 1048576 := by rw [ext_sz _ _ _ (by omega)]; omega
    obtain ⟨r, r1, r2, r3⟩ := numbers (s.extract 0 q) hsz0
    have hc := cutAt_hit (m := 59) hs hq (fun j hj => hn j (by omega) hj) he
    cases ht with
    | last _ _ hn2 =>
      have d1 := readSpec (s.extract (q + 1) s.size) (by omega)
      have d2 := readImpl (s.extract (q + 1) s.size) (by omega)
      have d3 := digitsTold_len (bytesOf (s.extract (q + 1) s.size))
      generalize digitsTold (bytesOf (s.extract (q + 1) s.size)) = D at d1 d2 d3
      rw [bytesOf_len] at d3
      have e0 : rdOf ByteArray.empty [s.extract 0 q, s.extract (q + 1) s.size] 0 = s.extract 0 q := rfl
      have e1 : rdOf ByteArray.empty [s.extract 0 q, s.extract (q + 1) s.size] 1 = s.extract (q + 1) s.size := rfl
      by_cases c : r.2 = true ∧ D.2 = true ∧ (r.1.length : Int) = 2
      · refine ⟨(rd r.1 0, rd r.1 1, D.1, true), ?_, ?_, by show D.1.length ≤ _; omega⟩
        · unfold spec_l08Two.f
          refine Ev.bind hcut (Ev.pos (by rfl) (Ev.pos (by simp) (Ev.bind r1 (Ev.pos (by simp) (Ev.bind d1 ?_)))))
          exact Ev.pos c.1 (Ev.pos c.2.1 (Ev.pos c.2.2 (Ev.pos (by omega) (Ev.pos (by omega) (Ev.now _)))))
        · unfold impl_readHeaded.f
          exact Ev.bnd hc (Ev.bind r2 (Ev.bind d2 (Ev.pos rfl (Ev.pos c.1 (Ev.pos c.2.1 (Ev.pos c.2.2 (Ev.pos (by omega) (Ev.pos (by omega) (Ev.now _)))))))))
      · refine ⟨(0, 0, [], false), ?_, ?_, by simp⟩
        · unfold spec_l08Two.f
          refine Ev.bind hcut (Ev.pos (by rfl) (Ev.pos (by simp) (Ev.bind r1 (Ev.pos (by simp) (Ev.bind d1 ?_)))))
          by_cases c1 : r.2 = true
          · refine Ev.pos c1 ?_
            by_cases c2 : D.2 = true
            · exact Ev.pos c2 (Ev.neg (fun c3 => c ⟨c1, c2, c3⟩) (Ev.now _))
            · exact Ev.neg c2 (Ev.now _)
          · exact Ev.neg c1 (Ev.now _)
        · unfold impl_readHeaded.f
          refine Ev.bnd hc (Ev.bind r2 (Ev.bind d2 (Ev.pos rfl ?_)))
          by_cases c1 : r.2 = true
          · refine Ev.pos c1 ?_
            by_cases c2 : D.2 = true
            · exact Ev.pos c2 (Ev.neg (fun c3 => c ⟨c1, c2, c3⟩) (Ev.now _))
            · exact Ev.neg c2 (Ev.now _)
          · exact Ev.neg c1 (Ev.now _)
    | line _ q2 _ L2 h2 hq2 hn2 he2 ht2 =>
      have d2 := readImpl (s.extract (q + 1) s.size) (by omega)
      have hbad : digitsTold (bytesOf (s.extract (q + 1) s.size)) = ([], false) := by
        unfold digitsTold
        rw [if_neg]
        intro ha
        have hx := bt_extract s (q + 1) s.size (q2 - (q + 1)) (Nat.le_refl _) (by omega)
        rw [show q + 1 + (q2 - (q + 1)) = q2 from by omega, he2] at hx
        have hj : q2 - (q + 1) < (bytesOf (s.extract (q + 1) s.size)).length := by rw [bytesOf_len, ext_sz _ _ _ (Nat.le_refl _)]; omega
        have hm := allIn_iff.1 ha _ (List.getElem_mem hj)
        rw [bytesOf_get, hx] at hm
        have : ((59 : UInt8).toNat : Int) = 59 := rfl
        omega
      rw [hbad] at d2
      refine ⟨(0, 0, [], false), ?_, ?_, by simp⟩
      · unfold spec_l08Two.f
        exact Ev.bind hcut (Ev.neg (by simp; omega) (Ev.now _))
      · unfold impl_readHeaded.f
        refine Ev.bnd hc (Ev.bind r2 (Ev.bind d2 (Ev.pos rfl ?_)))
        by_cases c1 : r.2 = true
        · exact Ev.pos c1 (Ev.neg (by simp) (Ev.now _))
        · exact Ev.neg c1 (Ev.now _)

theorem areWithin (l : List Int) (a b : Int) (hl : l.length ≤ 35184372088832) : Ev (fun k => impl_areWithin.f k l a b) (allIn l a b) := by
  unfold impl_areWithin.f
  refine Ev.upto l.length (fun i => ∀ j, (hj : j < l.length) → j < i → a ≤ l[j] ∧ l[j] ≤ b) (fun _ => ()) _ (fun k _ i => impl_areWithin.l0 k a b l l.length i) (fun i hi hp ih => ?_) (fun hp => ?_) (fun j hj h => by omega)
  · refine Ev.succ ?_
    simp only [impl_areWithin.l0]
    refine Ev.pos (by omega) (Ev.pos (by omega) (Ev.pos (by omega) ?_))
    rw [rd_lt l i (by omega), wrap_id (by omega) (by omega), within]
    by_cases c : a ≤ l[i] ∧ l[i] ≤ b
    · exact Ev.bnd rfl (Ev.pos (by simpa using c) (ih (upTo_succ (p := fun x => a ≤ x ∧ x ≤ b) hi hp c)))
    · exact Ev.bnd rfl (Ev.neg (by simpa using c) (Ev.val (by rw [allIn_false i (by omega) c])))
  · refine Ev.succ ?_
    simp only [impl_areWithin.l0]
    exact Ev.neg (by omega) (Ev.val (by rw [allIn_true (fun j hj' => hp j hj' (by omega))]))

theorem areMany (l : List Int) (a b c d : Int) (hl : l.length ≤ 35184372088832) : Ev (fun k => impl_areMany.f k l a b c d) (decide (a ≤ l.length ∧ l.length ≤ b) && allIn l c d) := by
  unfold impl_areMany.f
  refine Ev.bnd (within _ _ _) ?_
  by_cases h : a ≤ l.length ∧ l.length ≤ b
  · refine Ev.pos (by simpa using h) (Ev.cast (Ev.bind (areWithin l c d hl) (Ev.now _)) (by simp [h]))
  · exact Ev.neg (by simpa using h) (Ev.val (by simp [h]))

theorem isSide (r : Int) : impl_isSide.f r = some (decide (1 ≤ r ∧ r ≤ 24)) := by
  unfold impl_isSide.f
  rw [within]; rfl
theorem ValidField (r c : Int) (l : List Int) (hl : l.length ≤ 35184372088832) : Ev (fun k => impl_ValidField.f k r c l) (validField r c l) := by
  unfold impl_ValidField.f validField
  refine Ev.cast (Ev.andB (isSide r) (fun hr => Ev.andB (isSide c) (fun hc => ?_))) (by rw [← Bool.and_assoc, ← Bool.and_assoc])
  rw [decide_eq_true_eq] at hr hc
  have hm1 : 0 ≤ r * c := Int.mul_nonneg (by omega) (by omega)
  have hm2 : r * c ≤ 24 * c := Int.mul_le_mul_of_nonneg_right hr.2 (by omega)
  rw [wrap_id (x := r * c) (by omega) (by omega)]
  refine Ev.cast (Ev.ret (areMany l _ _ 0 9 hl)) ?_
  congr 1
  exact decide_eq_decide.mpr (by omega)

theorem l00In (a b c : Int) : spec_l00In.f a b c = some (decide (b ≤ a ∧ a ≤ c)) := by
  unfold spec_l00In.f
  by_cases h : a ≥ b
  · rw [if_pos h]; simp; omega
  · rw [if_neg h]; simp; omega

theorem l04Is (r c : Int) (l : List Int) (hl : l.length ≤ 35184372088832) : Ev (fun k => spec_l04Is.f k r c l) (validField r c l) := by
  unfold spec_l04Is.f validField
  refine Ev.bnd (l00In r 1 24) ?_
  by_cases hr : 1 ≤ r ∧ r ≤ 24
  · refine Ev.pos (by simpa using hr) (Ev.bnd (l00In c 1 24) ?_)
    by_cases hc : 1 ≤ c ∧ c ≤ 24
    · have hm1 : 0 ≤ r * c := Int.mul_nonneg (by omega) (by omega)
      have hm2 : r * c ≤ 24 * c := Int.mul_le_mul_of_nonneg_right hr.2 (by omega)
      rw [wrap_id (x := r * c) (by omega) (by omega)]
      refine Ev.pos (by simpa using hc) (Ev.succ ?_)
      simp only [spec_l04Is.j0]
      by_cases hn : (l.length : Int) = r * c
      · refine Ev.neg (by simp [hn]) ?_
        rw [decide_eq_true hr, decide_eq_true hc, decide_eq_true hn, Bool.true_and, Bool.true_and, Bool.true_and]
        refine Ev.upto l.length (fun i => ∀ j, (hj : j < l.length) → j < i → 0 ≤ l[j] ∧ l[j] ≤ 9) (fun _ => ()) _ (fun k _ i => spec_l04Is.l0 k i r c l) (fun i hi hp ih => ?_) (fun hp => ?_) (fun j hj h => by omega)
        · refine Ev.succ ?_
          simp only [spec_l04Is.l0]
          refine Ev.pos (by omega) (Ev.pos (by omega) ?_)
          rw [rd_lt l i (by omega), wrap_id (x := (i : Int) + 1) (by omega) (by omega)]
          refine Ev.bnd (l00In _ _ _) ?_
          by_cases c : 0 ≤ l[i] ∧ l[i] ≤ 9
          · exact Ev.pos (by simpa using c) (ih (upTo_succ (p := fun x => 0 ≤ x ∧ x ≤ 9) hi hp c))
          · exact Ev.neg (by simpa using c) (Ev.val (by rw [allIn_false i (by omega) c]))
        · refine Ev.succ ?_
          simp only [spec_l04Is.l0]
          exact Ev.neg (by omega) (Ev.val (by rw [allIn_true (fun j hj' => hp j hj' (by omega))]))
      · exact Ev.pos (by simp [hn]) (Ev.val (by simp [hn]))
    · refine Ev.neg (by simpa using hc) (Ev.succ ?_)
      simp only [spec_l04Is.j0]
      exact Ev.pos (by trivial) (Ev.val (by simp [hc]))
  · refine Ev.neg (by simpa using hr) (Ev.succ ?_)
    simp only [spec_l04Is.j0]
    exact Ev.pos (by trivial) (Ev.val (by simp [hr]))

theorem eqInt64S (l m : List Int) (hl : l.length ≤ 35184372088832) : Ev (fun k => laws_eqInt64S.f k l m) (decide (l = m)) := by
  unfold laws_eqInt64S.f
  by_cases h : l.length = m.length
  · refine Ev.pos (by omega) ?_
    refine Ev.upto l.length (fun i => ∀ j, j < i → l[j]? = m[j]?) (fun _ => ()) _ (fun k _ i => laws_eqInt64S.l0 k l m i) (fun i hi hp ih => ?_) (fun hp => ?_) (fun j hj => by omega)
    · refine Ev.succ ?_
      simp only [laws_eqInt64S.l0]
      refine Ev.pos (by omega) (Ev.pos (by omega) (Ev.pos (by omega) ?_))
      rw [rd_lt l i (by omega), rd_lt m i (by omega)]
      by_cases e : l[i] = m[i]
      · refine Ev.pos e ?_
        rw [wrap_id (by omega) (by omega)]
        exact ih (fun j hj' => by
          by_cases hji : j < i
          · exact hp j hji
          · obtain rfl : j = i := by omega
            rw [List.getElem?_eq_getElem (by omega), List.getElem?_eq_getElem (by omega), e])
      · refine Ev.neg e (Ev.val ?_)
        rw [eq_comm, Option.some.injEq, decide_eq_false_iff_not]
        rintro rfl
        exact e rfl
    · refine Ev.succ ?_
      simp only [laws_eqInt64S.l0]
      refine Ev.neg (by omega) (Ev.val ?_)
      have : l = m := List.ext_getElem? (fun j => by
        by_cases hjl : j < l.length
        · exact hp j (by omega)
        · rw [List.getElem?_eq_none (by omega), List.getElem?_eq_none (by omega)])
      simp [this]
  · refine Ev.neg (by omega) (Ev.val ?_)
    rw [eq_comm, Option.some.injEq, decide_eq_false_iff_not]
    rintro rfl
    exact h rfl

theorem eqField (s r : Int) (t : List Int) (s' r' : Int) (t' : List Int) (hl : t.length ≤ 35184372088832) : Ev (fun k => laws_eqField.f k s r t s' r' t') (decide (s = s' ∧ r = r' ∧ t = t')) := by
  unfold laws_eqField.f
  exact Ev.cast (Ev.andP (fun _ => Ev.andP (fun _ => Ev.eqs (eqInt64S t t' hl)))) (by simp only [Bool.decide_and])

theorem markInt64S (l : List Int) (a : Int) (hl : l.length ≤ 35184372088832) (h0 : -1 ≤ a) (h1 : a ≤ 1000000000000) : Ev (fun k => laws_markInt64S.f k l a) (a + l.length, marks a l.length) := by
  unfold laws_markInt64S.f
  refine Ev.congr (fun k => ?_) (Ev.upto l.length (fun _ => True) (fun i => (marks a i ++ l.drop i, a + (i : Int))) (a + l.length, marks a l.length) (fun k s i => laws_markInt64S.l0 k s.1 s.2 i) (fun i hi _ ih => ?_) (fun _ => ?_) trivial)
  · simp [marks]
  · refine Ev.succ ?_
    simp only [laws_markInt64S.l0]
    refine Ev.pos (by rw [List.length_append, marks_length, List.length_drop]; omega) (Ev.pos (by omega) ?_)
    rw [wrap_id (x := (i : Int) + 1) (by omega) (by omega), wrap_id (x := a + (i : Int) + 1) (by omega) (by omega), Int.toNat_natCast, marks_step a l i hi]
    have := ih trivial
    rw [show a + ((i + 1 : Nat) : Int) = a + (i : Int) + 1 by omega] at this
    exact this
  · refine Ev.succ ?_
    simp only [laws_markInt64S.l0]
    have e : marks a l.length ++ l.drop l.length = marks a l.length := by rw [List.drop_length, List.append_nil]
    rw [e]
    exact Ev.neg (by rw [marks_length]; omega) (Ev.now _)

theorem heldInt64S (n : Nat) (a : Int) (hl : n ≤ 35184372088832) (h0 : -1 ≤ a) (h1 : a ≤ 1000000000000) : Ev (fun k => laws_heldInt64S.f k (marks a n) a) (a + n) := by
  unfold laws_heldInt64S.f
  refine Ev.congr (fun k => ?_) (Ev.upto n (fun _ => True) (fun i => a + (i : Int)) (a + n) (fun k s i => laws_heldInt64S.l0 k (marks a n) s i) (fun i hi _ ih => ?_) (fun _ => ?_) trivial)
  · simp
  · refine Ev.succ ?_
    simp only [laws_heldInt64S.l0]
    refine Ev.pos (by rw [marks_length]; omega) (Ev.pos (by omega) (Ev.pos ?_ ?_))
    · rw [rd_lt _ i (by rw [marks_length]; exact hi), marks_get a n i hi]
    · rw [wrap_id (x := (i : Int) + 1) (by omega) (by omega), wrap_id (x := a + (i : Int) + 1) (by omega) (by omega)]
      have := ih trivial
      rw [show a + ((i + 1 : Nat) : Int) = a + (i : Int) + 1 by omega] at this
      exact this
  · refine Ev.succ ?_
    simp only [laws_heldInt64S.l0]
    exact Ev.neg (by rw [marks_length]; omega) (Ev.val rfl)

theorem markField (s r : Int) (t : List Int) (a : Int) (hl : t.length ≤ 35184372088832) (h0 : -1 ≤ a) (h1 : a ≤ 1000000000000) : Ev (fun k => laws_markField.f k s r t a) (a + t.length, marks a t.length) := by
  unfold laws_markField.f
  exact Ev.bind (markInt64S t a hl h0 h1) (Ev.now _)
theorem heldField (s r : Int) (n : Nat) (a : Int) (hl : n ≤ 35184372088832) (h0 : 0 ≤ a) (h1 : a ≤ 1000000000000) : Ev (fun k => laws_heldField.f k s r (marks a n) a) (a + n) := by
  unfold laws_heldField.f
  exact Ev.bind (heldInt64S n a hl (by omega) h1) (Ev.neg (by omega) (Ev.now _))

theorem probe : True := trivial
theorem readField (s : ByteArray) (hs : s.size ≤ 1048576) : ∃ r : Int × Int × List Int × Bool, Ev (fun k => spec_ReadField.f k s) r ∧ Ev (fun k => impl_ReadField.f k s) r ∧ r.2.2.1.length ≤ 1048576 := by
  obtain ⟨r, r1, r2, r3⟩ := headed s hs
  have hl : r.2.2.1.length ≤ 35184372088832 := by omega
  suffices h : ∃ v : Int × Int × List Int × Bool, Ev (fun k => spec_l08ReadField.f k s) v ∧ Ev (fun k => impl_ReadField.f k s) v ∧ v.2.2.1.length ≤ 1048576 by
    obtain ⟨v, v1, v2, v3⟩ := h
    exact ⟨v, by unfold spec_ReadField.f; exact Ev.bind v1 (Ev.now _), v2, v3⟩
  unfold spec_l08ReadField.f impl_ReadField.f
  by_cases c : r.2.2.2 = true
  · by_cases g : validField r.1 r.2.1 r.2.2.1 = true
    · refine ⟨(r.1, r.2.1, r.2.2.1, true), Ev.bind r1 (Ev.pos c (Ev.bind (a := (r.1, r.2.1, r.2.2.1, true)) ?_ (Ev.now _))), Ev.bind r2 (Ev.pos c (Ev.bind (ValidField _ _ _ hl) (Ev.pos g (Ev.now _)))), r3⟩
      unfold spec_l04Give.f
      exact Ev.bind (l04Is _ _ _ hl) (Ev.pos g (Ev.now _))
    · refine ⟨(0, 0, [], false), Ev.bind r1 (Ev.pos c (Ev.bind (a := (0, 0, [], false)) ?_ (Ev.now _))), Ev.bind r2 (Ev.pos c (Ev.bind (ValidField _ _ _ hl) (Ev.neg g (Ev.now _)))), by simp⟩
      unfold spec_l04Give.f
      exact Ev.bind (l04Is _ _ _ hl) (Ev.neg g (Ev.now _))
  · exact ⟨(0, 0, [], false), Ev.bind r1 (Ev.neg c (Ev.now _)), Ev.bind r2 (Ev.neg c (Ev.now _)), by simp⟩
theorem FnExactReadField : laws_FnExactReadField.Pure := by
  intro s _
  refine Ev.rounds ?_
  unfold laws_FnExactReadField.f
  by_cases c : (s.size : Int) > 1048576
  · exact Ev.pos c (Ev.now _)
  · obtain ⟨r, r1, r2, r3⟩ := readField s (by omega)
    refine Ev.neg c (Ev.bind r1 (Ev.bind r2 (Ev.bind (eqField _ _ _ _ _ _ (by omega)) (Ev.pos (by simp) (Ev.succ ?_)))))
    simp only [laws_FnExactReadField.j0]
    refine Ev.neg (by simp) (Ev.bind (markField _ _ _ 1 (by omega) (by omega) (by omega)) (Ev.bind (heldField _ _ _ 1 (by omega) (by omega) (by omega)) (Ev.neg (by omega) (Ev.pos (by trivial) (Ev.bind r2 (Ev.bind (eqField _ _ _ _ _ _ (by omega)) (Ev.pos (by simp) (Ev.succ ?_))))))))
    simp only [laws_FnExactReadField.j1]
    exact Ev.neg (by simp) (Ev.bind (heldField _ _ _ 1 (by omega) (by omega) (by omega)) (Ev.neg (by omega) (Ev.pos (by trivial) (Ev.now _))))

end Go.Proofs.YtnkmojmcdcjkmaaDoor.Pure

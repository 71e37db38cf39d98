/- RecoverJournal of the program and of the reference answer the same for every text; what it hands back is its own. -/
import Derived.Test.YtnkmojmcdcjkmaaDoorPFnExactRecoverJournalx0
import Derived.Test.YtnkmojmcdcjkmaaDoorPFnExactRecoverJournalx1
import Derived.Test.YtnkmojmcdcjkmaaDoorPFnExactRecoverJournalx2
import Derived.Test.YtnkmojmcdcjkmaaDoorLib
namespace Go.Proofs.YtnkmojmcdcjkmaaDoor.Pure
open Go.RowKit Go.Proofs.YtnkmojmcdcjkmaaDoor.PFnExactRecoverJournal Go.Proofs.YtnkmojmcdcjkmaaDoorW.PrintWords Go.Proofs.YtnkmojmcdcjkmaaDoorW.PrintLast Go.Proofs.YtnkmojmcdcjkmaaDoor.L
set_option linter.unusedVariables false
set_option linter.unusedSimpArgs false

theorem within (a b c : Int) : impl_within.f a b c = some (decide (b ≤ a ∧ a ≤ c)) := by
  unfold impl_within.f
  by_cases h : a ≥ b
  · rw [if_pos h]; simp; omega
  · rw [if_neg h]; simp; omega

theorem rdB_lt (l : List ByteArray) (i : Nat) (h : i < l.length) : rdOf ByteArray.empty l (i : Int) = l[i] := by
  unfold rdOf; rw [Int.toNat_natCast, List.getD_eq_getElem?_getD, List.getElem?_eq_getElem h]; rfl
theorem eqStringS (l : List ByteArray) (hl : l.length ≤ 8796093022202) : Ev (fun k => laws_eqStringS.f k l l) true := by
  unfold laws_eqStringS.f
  refine Ev.pos rfl ?_
  refine Ev.upto l.length (fun _ => True) (fun _ => ()) true (fun k _ i => laws_eqStringS.l0 k l l i) (fun i hi _ ih => ?_) (fun _ => ?_) trivial
  · refine Ev.succ ?_
    simp only [laws_eqStringS.l0]
    refine Ev.pos (by omega) (Ev.pos (by omega) (Ev.pos (by omega) (Ev.pos (by first | trivial | rfl) ?_)))
    rw [wrap_id (by omega) (by omega)]
    exact ih trivial
  · refine Ev.succ ?_
    simp only [laws_eqStringS.l0]
    exact Ev.neg (by omega) (Ev.now _)
theorem bt_at (s : ByteArray) (i : Nat) (h : i < s.size) : bt s (i : Int) = ((s[i]'h).toNat : Int) := by
  unfold bt; rw [dif_pos (by simpa using h)]; rfl
theorem bt_in (s : ByteArray) (i : Int) : 0 ≤ bt s i ∧ bt s i ≤ 255 := by
  unfold bt
  split
  · rename_i h
    have := UInt8.toNat_lt (s[i.toNat]'h)
    omega
  · omega
theorem indexByte_two (l : List UInt8) (c : UInt8) : (Go.Lib.indexByte l c = -1 ∧ c ∉ l) ∨ (0 ≤ Go.Lib.indexByte l c ∧ c ∈ l) := by
  induction l with
  | nil => exact Or.inl ⟨rfl, by simp⟩
  | cons b l ih =>
    unfold Go.Lib.indexByte
    by_cases h : b = c
    · subst h; right; simp
    · have hb : (b == c) = false := by simpa using h
      rw [hb]
      rcases ih with ⟨h1, h2⟩ | ⟨h1, h2⟩
      · left; rw [h1]; exact ⟨rfl, by simp; exact ⟨fun e => h e.symm, h2⟩⟩
      · right
        have hn : (Go.Lib.indexByte l c == -1) = false := by simp; omega
        rw [hn]
        exact ⟨by simp; omega, List.mem_cons_of_mem _ h2⟩
/-- The running check over the first bytes. -/
def chkN (c : Int) (s : ByteArray) : Nat → Int
  | 0 => c
  | i + 1 => Int.tmod (wrap64 ((wrap64 ((wrap64 (947 * chkN c s i)) + (wrap64 (bt s (i : Int))))) + 211)) 65003
theorem chk_in (c : Int) (s : ByteArray) (h0 : 0 ≤ c) (h1 : c ≤ 65002) (i : Nat) : 0 ≤ chkN c s i ∧ chkN c s i ≤ 65002 := by
  induction i with
  | zero => exact ⟨h0, h1⟩
  | succ i ih =>
    have hb := bt_in s (i : Int)
    unfold chkN
    rw [wrap_id (x := 947 * chkN c s i) (by omega) (by omega), wrap_id (x := bt s (i : Int)) (by omega) (by omega), wrap_id (x := 947 * chkN c s i + bt s (i : Int)) (by omega) (by omega), wrap_id (by omega) (by omega), Int.tmod_eq_emod_of_nonneg (by omega)]
    omega
theorem chkSpec (c : Int) (s : ByteArray) (hs : s.size ≤ 1048576) : Ev (fun k => spec_l01Check.f k c s) (chkN c s s.size) := by
  unfold spec_l01Check.f
  refine Ev.upto s.size (fun _ => True) (fun i => chkN c s i) _ (fun k x i => spec_l01Check.l0 k x s i) (fun i hi _ ih => ?_) (fun _ => ?_) trivial
  · refine Ev.succ ?_
    simp only [spec_l01Check.l0]
    refine Ev.pos (by omega) (Ev.pos (by omega) ?_)
    rw [wrap_id (x := (i : Int) + 1) (by omega) (by omega)]
    exact ih trivial
  · refine Ev.succ ?_
    simp only [spec_l01Check.l0]
    exact Ev.neg (by omega) (Ev.now _)
theorem chkImpl (c : Int) (s : ByteArray) (hs : s.size ≤ 1048576) (h0 : 0 ≤ c) (h1 : c ≤ 65002) : Ev (fun k => impl_CheckOf.f k c s) (chkN c s s.size, true) := by
  unfold impl_CheckOf.f
  refine Ev.bnd (within c 0 65002) (Ev.pos (by simp; omega) ?_)
  refine Ev.upto s.size (fun _ => True) (fun i => chkN c s i) _ (fun k x i => impl_CheckOf.l0 k x s (s.size : Int) i) (fun i hi _ ih => ?_) (fun _ => ?_) trivial
  · refine Ev.succ ?_
    simp only [impl_CheckOf.l0]
    refine Ev.pos (by omega) (Ev.pos (by omega) (Ev.pos (by omega) ?_))
    rw [wrap_id (x := (i : Int) + 1) (by omega) (by omega)]
    exact ih trivial
  · refine Ev.succ ?_
    simp only [impl_CheckOf.l0]
    exact Ev.neg (by omega) (Ev.now _)
def decB (u : Nat) : ByteArray := ⟨(Go.Lib.decDigits u).toArray⟩
theorem decLen (d : Nat) : ∀ m : Nat, m < 10 ^ (d + 1) → 1 ≤ (Go.Lib.decDigits m).length ∧ (Go.Lib.decDigits m).length ≤ d + 1 := by
  induction d with
  | zero =>
    intro m hm
    rw [Go.Lib.decDigits, dif_pos (by omega)]
    simp
  | succ d ih =>
    intro m hm
    rw [Go.Lib.decDigits]
    by_cases c : m < 10
    · rw [dif_pos c]; simp
    · rw [dif_neg c, List.length_append]
      have := ih (m / 10) (by rw [Nat.pow_succ] at hm; omega)
      simp; omega
theorem decB_size (m : Nat) (h : m ≤ 65002) : 1 ≤ (decB m).size ∧ (decB m).size ≤ 5 := by
  have := decLen 4 m (by omega)
  unfold decB
  simpa [ByteArray.size] using this
def decI (u : Nat) : List Int := (Go.Lib.decDigits u).map fun b => (b.toNat : Int)
theorem decI_str (u : Nat) : strOfNums (decI u) = decB u := by
  unfold strOfNums decI decB
  rw [List.map_map]
  congr 2
  apply (List.map_congr_left (g := id) ?_).trans (List.map_id _)
  intro b _
  simp
theorem decI_small (u : Nat) (h : u < 10) : decI u = [48 + (u : Int)] := by
  unfold decI
  rw [Go.Lib.decDigits, dif_pos h]
  have : (UInt8.ofNat (48 + u)).toNat = 48 + u := by rw [UInt8.toNat_ofNat']; omega
  simp only [List.map_cons, List.map_nil, this]
  congr 1
theorem decI_step (u : Nat) (h : ¬ u < 10) : decI u = decI (u / 10) ++ [48 + ((u % 10 : Nat) : Int)] := by
  unfold decI
  rw [Go.Lib.decDigits, dif_neg h, List.map_append]
  have : (UInt8.ofNat (48 + u % 10)).toNat = 48 + u % 10 := by rw [UInt8.toNat_ofNat']; omega
  simp only [List.map_cons, List.map_nil, this]
  congr 1
theorem decStep1 (x0 : Int) (m : Nat) (hm : m ≤ 1000000000) (x3 : List Int) (h3 : x3.length ≤ 1000) (hc : x3 = [] ∨ 0 < m) {r : ByteArray} (h : Ev (fun k => spec_l01Dec.l0 k x0 ((48 + ((m % 10 : Nat) : Int)) :: x3) ((m / 10 : Nat) : Int)) r) : Ev (fun k => spec_l01Dec.l0 k x0 x3 (m : Int)) r := by
  have e1 : Int.tmod (m : Int) 10 = ((m % 10 : Nat) : Int) := by rw [Int.tmod_eq_emod_of_nonneg (by omega)]; omega
  have e2 : Int.tdiv (m : Int) 10 = ((m / 10 : Nat) : Int) := by rw [Int.tdiv_eq_ediv_of_nonneg (by omega)]; omega
  have key : Ev (fun k => spec_l01Dec.j1 k x0 x3 (m : Int) true) r := by
    refine Ev.succ ?_
    simp only [spec_l01Dec.j1]
    rw [e1, e2, wrap_id (x := 48 + ((m % 10 : Nat) : Int)) (by omega) (by omega), wrap_id (x := ((m / 10 : Nat) : Int)) (by omega) (by omega), Int.emod_eq_of_lt (a := 48 + ((m % 10 : Nat) : Int)) (b := 256) (by omega) (by omega)]
    refine Ev.pos (by first | trivial | rfl) (Ev.neg (by omega) (Ev.bnd rfl (Ev.pos (by simp; omega) ?_)))
    exact h
  refine Ev.succ ?_
  simp only [spec_l01Dec.l0]
  rcases hc with rfl | hc
  · exact Ev.pos rfl key
  · by_cases c : (x3.length : Int) = 0
    · exact Ev.pos c key
    · refine Ev.neg c ?_
      rw [show (((m : Int)) != 0) = true from by simp; omega]
      exact key
theorem decEnd (x0 : Int) (h0 : 0 ≤ x0) (x3 : List Int) (h3 : x3 ≠ []) : Ev (fun k => spec_l01Dec.l0 k x0 x3 ((0 : Nat) : Int)) (strOfNums x3) := by
  refine Ev.succ ?_
  simp only [spec_l01Dec.l0]
  refine Ev.neg (by have := List.length_pos_iff.2 h3; omega) ?_
  refine Ev.succ ?_
  simp only [spec_l01Dec.j1]
  exact Ev.neg (by simp) (Ev.neg (by omega) (Ev.now _))
theorem decRun (x0 : Int) (h0 : 0 ≤ x0) (d : Nat) : ∀ (m : Nat) (x3 : List Int), m < 10 ^ (d + 1) → d ≤ 8 → x3.length + d ≤ 900 → (x3 = [] ∨ 0 < m) → Ev (fun k => spec_l01Dec.l0 k x0 x3 (m : Int)) (strOfNums (decI m ++ x3)) := by
  induction d with
  | zero =>
    intro m x3 hm _ hl hc
    refine decStep1 x0 m (by omega) x3 (by omega) hc ?_
    have : m / 10 = 0 := by omega
    rw [this, decI_small m (by omega), Nat.mod_eq_of_lt (by omega)]
    exact decEnd x0 h0 _ (by simp)
  | succ d ih =>
    intro m x3 hm hd hl hc
    have h9 : 10 ^ (d + 1 + 1) ≤ 10 ^ 9 := Nat.pow_le_pow_right (by omega) (by omega)
    refine decStep1 x0 m (by omega) x3 (by omega) hc ?_
    by_cases c : m < 10
    · have : m / 10 = 0 := by omega
      rw [this, decI_small m c, Nat.mod_eq_of_lt c]
      exact decEnd x0 h0 _ (by simp)
    · refine Ev.cast (ih (m / 10) _ (by rw [Nat.pow_succ] at hm; omega) (by omega) (by simp; omega) (Or.inr (by omega))) ?_
      rw [decI_step m c, List.append_assoc]; rfl
theorem decSpec (n : Int) (h0 : 0 ≤ n) (h1 : n ≤ 65002) : Ev (fun k => spec_l01Dec.f k n) (decB n.toNat) := by
  obtain ⟨m, rfl⟩ := Int.eq_ofNat_of_zero_le h0
  unfold spec_l01Dec.f
  refine Ev.cast (decRun (m : Int) h0 4 m [] (by omega) (by omega) (by simp) (Or.inl rfl)) ?_
  rw [List.append_nil, decI_str, Int.toNat_natCast]
theorem decImpl (n : Int) (h0 : 0 ≤ n) (h1 : n ≤ 65002) : impl_Decimal.f n = some (decB n.toNat) := by
  unfold impl_Decimal.f strconv_FormatInt.f
  rw [if_pos rfl, if_pos (by omega), if_pos (by omega), Option.bind_some]
  unfold Go.Lib.itoa decB
  rw [if_neg (by omega)]

theorem firstAt (s : ByteArray) (c : Int) (n : Nat) : ∀ (d p : Nat), p + d = n → ∃ q : Nat, p ≤ q ∧ q ≤ n ∧ (∀ j : Nat, p ≤ j → j < q → bt s (j : Int) ≠ c) ∧ (q = n ∨ q < n ∧ bt s (q : Int) = c) := by
  intro d
  induction d with
  | zero => intro p h; exact ⟨p, Nat.le_refl _, by omega, fun j h1 h2 => by omega, Or.inl (by omega)⟩
  | succ d ih =>
    intro p h
    by_cases e : bt s (p : Int) = c
    · exact ⟨p, Nat.le_refl _, by omega, fun j h1 h2 => by omega, Or.inr ⟨by omega, e⟩⟩
    · obtain ⟨q, h1, h2, h3, h4⟩ := ih (p + 1) (by omega)
      refine ⟨q, by omega, h2, fun j j1 j2 => ?_, h4⟩
      by_cases ej : j = p
      · subst ej; exact e
      · exact h3 j (by omega) j2
/-- The lines of s from p on; what stands behind the last newline is none. -/
inductive Lines (s : ByteArray) : Nat → List ByteArray → Prop
  | last (p : Nat) (h : p ≤ s.size) (hn : ∀ j : Nat, p ≤ j → j < s.size → bt s (j : Int) ≠ 10) : Lines s p []
  | line (p q : Nat) (L : List ByteArray) (h : p ≤ q) (hq : q < s.size) (hn : ∀ j : Nat, p ≤ j → j < q → bt s (j : Int) ≠ 10) (he : bt s (q : Int) = 10) (ht : Lines s (q + 1) L) : Lines s p (s.extract p q :: L)
theorem lines_ex (s : ByteArray) : ∀ (d p : Nat), p ≤ s.size → s.size - p ≤ d → ∃ L, Lines s p L := by
  intro d
  induction d with
  | zero =>
    intro p h hd
    exact ⟨[], .last p h fun j h1 h2 => by omega⟩
  | succ d ih =>
    intro p h hd
    obtain ⟨q, h1, h2, h3, h4⟩ := firstAt s 10 s.size (s.size - p) p (by omega)
    rcases h4 with rfl | ⟨h4, h5⟩
    · exact ⟨[], .last p h h3⟩
    · obtain ⟨L, hL⟩ := ih (q + 1) (by omega) (by omega)
      exact ⟨_, .line p q L h1 h4 h3 h5 hL⟩
theorem lines_len {s : ByteArray} {p : Nat} {L : List ByteArray} (h : Lines s p L) : p + L.length ≤ s.size := by
  induction h with
  | last p h _ => simpa using h
  | line p q L h hq _ _ _ ih => rw [List.length_cons]; omega
theorem cutSkip {s : ByteArray} (hs : s.size ≤ 1048576) {out : List ByteArray} {f : Int} {r : List ByteArray} {q : Nat} (hq : q ≤ s.size) (d : Nat) : ∀ p : Nat, p + d = q → (∀ j : Nat, p ≤ j → j < q → bt s (j : Int) ≠ 10) → Ev (fun k => spec_l01Cut.l0 k s 10 out f (q : Int)) r → Ev (fun k => spec_l01Cut.l0 k s 10 out f (p : Int)) r := by
  induction d with
  | zero => intro p hp _ h; obtain rfl : p = q := by omega
            exact h
  | succ d ih =>
    intro p hp hn h
    refine Ev.succ ?_
    simp only [spec_l01Cut.l0]
    refine Ev.pos (by omega) (Ev.neg (by omega) (Ev.pos (by omega) (Ev.pos (by omega) (Ev.neg (hn p (by omega) (by omega)) ?_))))
    rw [wrap_id (x := (p : Int) + 1) (by omega) (by omega)]
    exact ih (p + 1) (by omega) (fun j j1 j2 => hn j (by omega) j2) h
theorem cutLines {s : ByteArray} (hs : s.size ≤ 1048576) {p : Nat} {L : List ByteArray} (h : Lines s p L) : ∀ out : List ByteArray, out.length + L.length ≤ 8000000000000 → ∃ z, Ev (fun k => spec_l01Cut.l0 k s 10 out (p : Int) (p : Int)) (out ++ L ++ [z]) := by
  induction h with
  | last p h hn =>
    intro out ho
    rw [List.length_nil] at ho
    refine ⟨s.extract p s.size, cutSkip hs (Nat.le_refl _) (s.size - p) p (by omega) hn ?_⟩
    refine Ev.succ ?_
    simp only [spec_l01Cut.l0]
    refine Ev.pos (by omega) (Ev.pos (by first | trivial | rfl) (Ev.pos (by omega) (Ev.pos (by omega) (Ev.pos (by omega) ?_))))
    rw [wrap_id (x := (s.size : Int) + 1) (by omega) (by omega), Int.toNat_natCast, Int.toNat_natCast]
    refine Ev.succ ?_
    simp only [spec_l01Cut.l0]
    exact Ev.neg (by omega) (Ev.val (by rw [List.append_nil]))
  | line p q L h hq hn he ht ih =>
    intro out ho
    rw [List.length_cons] at ho
    obtain ⟨z, hz⟩ := ih (out ++ [s.extract p q]) (by rw [List.length_append]; simp; omega)
    refine ⟨z, cutSkip hs (by omega) (q - p) p (by omega) hn ?_⟩
    refine Ev.succ ?_
    simp only [spec_l01Cut.l0]
    refine Ev.pos (by omega) (Ev.neg (by omega) (Ev.pos (by omega) (Ev.pos (by omega) (Ev.pos he (Ev.pos (by omega) (Ev.pos (by omega) (Ev.pos (by omega) ?_)))))))
    rw [wrap_id (x := (q : Int) + 1) (by omega) (by omega), Int.toNat_natCast, Int.toNat_natCast]
    refine Ev.cast hz ?_
    rw [List.append_assoc out, List.singleton_append]
theorem linesSpec {s : ByteArray} (hs : s.size ≤ 1048576) {L : List ByteArray} (h : Lines s 0 L) : ∃ z, Ev (fun k => spec_l08Lines.f k s) (L, z) := by
  have hl := lines_len h
  obtain ⟨z, hz⟩ := cutLines hs h [] (by rw [List.length_nil]; omega)
  rw [List.nil_append] at hz
  refine ⟨z, ?_⟩
  unfold spec_l08Lines.f
  have hz' : Ev (fun k => spec_l01Cut.f k s 10) (L ++ [z]) := hz
  refine Ev.bind hz' ?_
  have e : ((L ++ [z]).length : Int) = (L.length : Int) + 1 := by simp
  rw [e, wrap_id (by omega) (by omega), show (L.length : Int) + 1 - 1 = (L.length : Int) from by omega]
  refine Ev.pos (by omega) (Ev.pos (by omega) (Ev.pos (by omega) (Ev.val ?_)))
  rw [Int.toNat_natCast, List.take_left, rdB_lt _ _ (by simp)]
  simp
theorem at_iff (s : ByteArray) (j : Nat) (c : UInt8) : s.data.toList[j]? = some c ↔ j < s.size ∧ bt s (j : Int) = (c.toNat : Int) := by
  constructor
  · intro h
    obtain ⟨hj, e⟩ := List.getElem?_eq_some_iff.1 h
    have hj' : j < s.size := by rw [Array.length_toList] at hj; exact hj
    refine ⟨hj', ?_⟩
    rw [bt_at s j hj', ← e]; rfl
  · rintro ⟨hj, e⟩
    rw [bt_at s j hj] at e
    have hj' : j < s.data.toList.length := by rw [Array.length_toList]; exact hj
    rw [List.getElem?_eq_getElem hj']
    congr 1
    apply UInt8.toNat_inj.1
    have : s.data.toList[j] = s[j] := rfl
    rw [this]
    omega
theorem indexByte_hit (c : UInt8) : ∀ (l : List UInt8) (e : Nat), l[e]? = some c → (∀ j, j < e → l[j]? ≠ some c) → Go.Lib.indexByte l c = (e : Int) := by
  intro l
  induction l with
  | nil => intro e h _; simp at h
  | cons b l ih =>
    intro e h hn
    unfold Go.Lib.indexByte
    cases e with
    | zero =>
      have : b = c := by simpa using h
      subst this; simp
    | succ e =>
      have hb : (b == c) = false := by
        have := hn 0 (by omega)
        simpa using this
      have := ih e (by simpa using h) (fun j hj => by have := hn (j + 1) (by omega); simpa using this)
      rw [hb, this]
      have h2 : (((e : Nat) : Int) == -1) = false := by rw [beq_eq_false_iff_ne]; omega
      rw [h2]
      simp
theorem idx_hit (s : ByteArray) (c : UInt8) (e : Nat) (he : e < s.size) (hn : ∀ j : Nat, j < e → bt s (j : Int) ≠ (c.toNat : Int)) (hc : bt s (e : Int) = (c.toNat : Int)) : Go.Lib.indexByte s.data.toList c = (e : Int) := by
  refine indexByte_hit c _ e ((at_iff s e c).2 ⟨he, hc⟩) (fun j hj h => ?_)
  exact hn j hj ((at_iff s j c).1 h).2
theorem idx_none (s : ByteArray) (c : UInt8) (hn : ∀ j : Nat, j < s.size → bt s (j : Int) ≠ (c.toNat : Int)) : Go.Lib.indexByte s.data.toList c = -1 := by
  rcases indexByte_two s.data.toList c with ⟨h, _⟩ | ⟨_, h⟩
  · exact h
  · obtain ⟨j, hj, e⟩ := List.getElem_of_mem h
    have := (at_iff s j c).1 (by rw [List.getElem?_eq_getElem hj, e])
    exact absurd this.2 (hn j this.1)
theorem bt_extract (s : ByteArray) (p q j : Nat) (hq : q ≤ s.size) (h : p + j < q) : bt (s.extract p q) (j : Int) = bt s ((p + j : Nat) : Int) := by
  have hz : j < (s.extract p q).size := by rw [ByteArray.size_extract]; omega
  rw [bt_at _ _ hz, bt_at _ _ (by omega : p + j < s.size), ByteArray.getElem_extract]
theorem ext_sz (s : ByteArray) (p q : Nat) (hq : q ≤ s.size) : (s.extract p q).size = q - p := by rw [ByteArray.size_extract]; omega
theorem ext_list (s : ByteArray) (a b : Nat) : (s.extract a b).data.toList = (s.data.toList.take b).drop a := by
  rw [ByteArray.data_extract, Array.toList_extract, List.extract_eq_take_drop, List.drop_take]
theorem mk_list {s : ByteArray} {l : List UInt8} (h : s.data.toList = l) : (⟨l.toArray⟩ : ByteArray) = s := by
  subst h
  apply ByteArray.ext
  simp
theorem newline_hit {s : ByteArray} {p q : Nat} (h : p ≤ q) (hq : q < s.size) (hn : ∀ j : Nat, p ≤ j → j < q → bt s (j : Int) ≠ 10) (he : bt s (q : Int) = 10) : strings_IndexByte.f (s.extract p s.size) 10 = some ((q - p : Nat) : Int) := by
  have hi := idx_hit (s.extract p s.size) 10 (q - p) (by rw [ext_sz _ _ _ (Nat.le_refl _)]; omega) (fun j hj => by
    rw [bt_extract _ _ _ _ (Nat.le_refl _) (by omega)]
    exact hn _ (by omega) (by omega)) (by
    rw [bt_extract _ _ _ _ (Nat.le_refl _) (by omega), show p + (q - p) = q from by omega]
    exact he)
  unfold strings_IndexByte.f
  rw [show ((10 : Int).toNat.toUInt8) = (10 : UInt8) from rfl, hi]
theorem newline_none {s : ByteArray} {p : Nat} (h : p ≤ s.size) (hn : ∀ j : Nat, p ≤ j → j < s.size → bt s (j : Int) ≠ 10) : strings_IndexByte.f (s.extract p s.size) 10 = some (-1) := by
  have hi := idx_none (s.extract p s.size) 10 (fun j hj => by
    rw [ext_sz _ _ _ (Nat.le_refl _)] at hj
    rw [bt_extract _ _ _ _ (Nat.le_refl _) (by omega)]
    exact hn _ (by omega) (by omega))
  unfold strings_IndexByte.f
  rw [show ((10 : Int).toNat.toUInt8) = (10 : UInt8) from rfl, hi]
theorem cut_hit {l : ByteArray} (hl : l.size ≤ 1048576) {e : Nat} (he : e < l.size) (hn : ∀ j : Nat, j < e → bt l (j : Int) ≠ 32) (hc : bt l (e : Int) = 32) : strings_Cut.f l (⟨#[32]⟩ : ByteArray) = some (l.extract 0 e, l.extract (e + 1) l.size, true) := by
  unfold strings_Cut.f
  rw [if_pos (by omega), show ((⟨#[32]⟩ : ByteArray).data.toList) = [(32 : UInt8)] from rfl]
  unfold Go.Lib.cut
  rw [Go.Lib.index_one, idx_hit l 32 e he hn hc, if_pos (by omega)]
  simp only [Int.toNat_natCast, List.length_cons, List.length_nil, Nat.zero_add]
  rw [mk_list (s := l.extract 0 e) (by rw [ext_list, List.drop_zero]), mk_list (s := l.extract (e + 1) l.size) (by rw [ext_list, List.take_of_length_le (by rw [Array.length_toList]; exact Nat.le_refl _)])]
theorem cut_none {l : ByteArray} (hl : l.size ≤ 1048576) (hn : ∀ j : Nat, j < l.size → bt l (j : Int) ≠ 32) : ∃ a : ByteArray, ∃ b : ByteArray, b.size ≤ 1048576 ∧ strings_Cut.f l (⟨#[32]⟩ : ByteArray) = some (a, b, false) := by
  refine ⟨⟨l.data.toList.toArray⟩, ⟨([] : List UInt8).toArray⟩, by show 0 ≤ _; omega, ?_⟩
  unfold strings_Cut.f
  rw [if_pos (by omega), show ((⟨#[32]⟩ : ByteArray).data.toList) = [(32 : UInt8)] from rfl]
  unfold Go.Lib.cut
  rw [Go.Lib.index_one, idx_none l 32 hn, if_neg (by omega)]
theorem scan {W : List ByteArray} {out : List ByteArray} {c n : Int} {i e : Nat} {r : List ByteArray × Int} (hi : i < W.length) (he : e ≤ (rdOf ByteArray.empty W (i : Int)).size) (hz : (rdOf ByteArray.empty W (i : Int)).size ≤ 1048576) (hn : ∀ j : Nat, j < e → bt (rdOf ByteArray.empty W (i : Int)) (j : Int) ≠ 32)
    (hc : e = (rdOf ByteArray.empty W (i : Int)).size ∨ e < (rdOf ByteArray.empty W (i : Int)).size ∧ bt (rdOf ByteArray.empty W (i : Int)) (e : Int) = 32) (h : Ev (fun k => spec_l08Recover.j2 k W out c n (i : Int) (e : Int)) r) : Ev (fun k => spec_l08Recover.l1 k W out c n (i : Int) 0) r := by
  refine Ev.upto e (fun _ => True) (fun _ => ()) r (fun k _ x => spec_l08Recover.l1 k W out c n (i : Int) x) (fun x hx _ ih => ?_) (fun _ => ?_) trivial
  · refine Ev.succ ?_
    simp only [spec_l08Recover.l1]
    refine Ev.pos (by omega) (Ev.pos (by omega) (Ev.pos (by omega) (Ev.pos (by omega) (Ev.neg (hn x hx) ?_))))
    rw [wrap_id (x := (x : Int) + 1) (by omega) (by omega)]
    exact ih trivial
  · refine Ev.succ ?_
    simp only [spec_l08Recover.l1]
    rcases hc with hc | ⟨h1, h2⟩
    · exact Ev.pos (by omega) (Ev.pos (by omega) (Ev.neg (by omega) h))
    · exact Ev.pos (by omega) (Ev.pos (by omega) (Ev.pos (by omega) (Ev.pos (by omega) (Ev.pos h2 h))))
theorem both {s : ByteArray} (hs : s.size ≤ 1048576) {p : Nat} {L : List ByteArray} (h : Lines s p L) : ∀ (P out : List ByteArray) (c : Int), P.length + L.length ≤ 8000000000 → out.length + L.length ≤ 1048576 → 0 ≤ c → c ≤ 65002 → ∃ r : List ByteArray × Int, Ev (fun k => spec_l08Recover.l0 k (P ++ L) out c (p : Int) (P.length : Int)) r ∧ Ev (fun k => impl_recovered.l0 k s out c (p : Int)) r ∧ r.1.length ≤ 1048576 := by
  induction h with
  | last p h hn =>
    intro P out c _ ho h0 h1
    refine ⟨(out, (p : Int)), Ev.succ ?_, Ev.succ ?_, by rw [List.length_nil] at ho; exact ho⟩
    · simp only [spec_l08Recover.l0]
      exact Ev.neg (by simp) (Ev.now _)
    · simp only [impl_recovered.l0]
      rw [Int.toNat_natCast]
      exact Ev.pos (by omega) (Ev.pos (by omega) (Ev.bnd (newline_none h hn) (Ev.pos (by omega) (Ev.now _))))
  | line p q L h hq hn he ht ih =>
    intro P out c hP ho h0 h1
    rw [List.length_cons] at hP ho
    have hsz : (s.extract p q).size = q - p := ext_sz s p q (by omega)
    have hlen : P.length < (P ++ s.extract p q :: L).length := by simp
    have hrd : rdOf ByteArray.empty (P ++ s.extract p q :: L) (P.length : Int) = s.extract p q := by
      rw [rdB_lt _ _ hlen]; simp
    obtain ⟨e, _, e2, e3, e4⟩ := firstAt (s.extract p q) 32 (s.extract p q).size (s.extract p q).size 0 (by omega)
    replace e3 : ∀ j : Nat, j < e → bt (s.extract p q) (j : Int) ≠ 32 := fun j hj => e3 j (by omega) hj
    have spec0 : ∀ r, Ev (fun k => spec_l08Recover.j2 k (P ++ s.extract p q :: L) out c (p : Int) (P.length : Int) (e : Int)) r → Ev (fun k => spec_l08Recover.l0 k (P ++ s.extract p q :: L) out c (p : Int) (P.length : Int)) r := by
      intro r hr
      refine Ev.succ ?_
      simp only [spec_l08Recover.l0]
      exact Ev.pos (by omega) (scan hlen (by rw [hrd]; exact e2) (by rw [hrd]; omega) (by rw [hrd]; exact e3) (by rw [hrd]; exact e4) hr)
    have impl0 : ∀ r, Ev (fun k => ((strings_Cut.f (s.extract p q) (⟨#[32]⟩ : ByteArray)).bind fun bt168 => ((impl_CheckOf.f k c bt168.2.1).bind fun bt171 => (if bt168.2.2 = true then ((impl_Decimal.f bt171.1).bind fun t173 => (if bt168.1.toList = t173.toList then (if out.length < 8796093022208 then (impl_recovered.l0 k s (out ++ [bt168.2.1]) bt171.1 ((q + 1 : Nat) : Int)) else (none)) else (some (out, (p : Int))))) else (some (out, (p : Int))))) : Option (List ByteArray × Int))) r → Ev (fun k => impl_recovered.l0 k s out c (p : Int)) r := by
      intro r hr
      refine Ev.succ ?_
      simp only [impl_recovered.l0]
      rw [Int.toNat_natCast]
      refine Ev.pos (by omega) (Ev.pos (by omega) (Ev.bnd (newline_hit h hq hn he) (Ev.neg (by omega) ?_)))
      rw [wrap_id (x := ((q - p : Nat) : Int) + 1) (by omega) (by omega), wrap_id (x := (p : Int) + ((q - p : Nat) : Int)) (by omega) (by omega), wrap_id (by omega) (by omega), show (p : Int) + (((q - p : Nat) : Int) + 1) = ((q + 1 : Nat) : Int) from by omega, show (p : Int) + ((q - p : Nat) : Int) = (q : Int) from by omega, Int.toNat_natCast]
      exact Ev.pos (by omega) (Ev.pos (by omega) hr)
    rcases e4 with e4 | ⟨e4, e5⟩
    · -- no space: no line
      obtain ⟨a, b, hb, hcut⟩ := cut_none (l := s.extract p q) (by omega) (fun j hj => e3 j (by omega))
      refine ⟨(out, (p : Int)), spec0 _ (Ev.succ ?_), impl0 _ ?_, by show out.length ≤ _; omega⟩
      · simp only [spec_l08Recover.j2]
        rw [hrd]
        exact Ev.pos (by omega) (Ev.pos (by omega) (Ev.pos (by omega) (Ev.now _)))
      · exact Ev.bnd hcut (Ev.bind (chkImpl c b hb h0 h1) (Ev.neg (by simp) (Ev.now _)))
    · have hcut := cut_hit (l := s.extract p q) (by omega) e4 e3 e5
      have hls : ((s.extract p q).extract (e + 1) (s.extract p q).size).size ≤ 1048576 := by rw [ext_sz _ _ _ (Nat.le_refl _)]; omega
      have hc := chk_in c ((s.extract p q).extract (e + 1) (s.extract p q).size) h0 h1 ((s.extract p q).extract (e + 1) (s.extract p q).size).size
      have spec1 : ∀ r, Ev (fun k => (if ((s.extract p q).extract 0 e).toList = (decB (chkN c ((s.extract p q).extract (e + 1) (s.extract p q).size) ((s.extract p q).extract (e + 1) (s.extract p q).size).size).toNat).toList then (if out.length < 8796093022208 then (spec_l08Recover.l0 k (P ++ s.extract p q :: L) (out ++ [(s.extract p q).extract (e + 1) (s.extract p q).size]) (chkN c ((s.extract p q).extract (e + 1) (s.extract p q).size) ((s.extract p q).extract (e + 1) (s.extract p q).size).size) ((q + 1 : Nat) : Int) ((P.length : Int) + 1)) else (none)) else (some (out, (p : Int))) : Option (List ByteArray × Int))) r → Ev (fun k => spec_l08Recover.l0 k (P ++ s.extract p q :: L) out c (p : Int) (P.length : Int)) r := by
        intro r hr
        refine spec0 _ (Ev.succ ?_)
        simp only [spec_l08Recover.j2]
        rw [hrd, wrap_id (x := (e : Int) + 1) (by omega) (by omega), show (e : Int) + 1 = ((e + 1 : Nat) : Int) from by omega, Int.toNat_natCast, Int.toNat_natCast, hsz, wrap_id (x := ((q - p : Nat) : Int) + 1) (by omega) (by omega), wrap_id (x := (p : Int) + (((q - p : Nat) : Int) + 1)) (by omega) (by omega), wrap_id (x := (P.length : Int) + 1) (by omega) (by omega), show (p : Int) + (((q - p : Nat) : Int) + 1) = ((q + 1 : Nat) : Int) from by omega, ← hsz]
        refine Ev.pos (by omega) (Ev.pos (by omega) (Ev.neg (by omega) (Ev.pos (by omega) (Ev.pos (by omega) (Ev.bind (chkSpec c _ hls) (Ev.pos (by omega) (Ev.pos (by omega) (Ev.bind (decSpec _ hc.1 hc.2) hr))))))))
      by_cases g : ((s.extract p q).extract 0 e).toList = (decB (chkN c ((s.extract p q).extract (e + 1) (s.extract p q).size) ((s.extract p q).extract (e + 1) (s.extract p q).size).size).toNat).toList
      · obtain ⟨r, r1, r2, r3⟩ := ih (P ++ [s.extract p q]) (out ++ [(s.extract p q).extract (e + 1) (s.extract p q).size]) _ (by simp; omega) (by simp; omega) hc.1 hc.2
        refine ⟨r, spec1 _ (Ev.pos g (Ev.pos (by omega) ?_)), impl0 _ (Ev.bnd hcut (Ev.bind (chkImpl c _ hls h0 h1) (Ev.pos rfl (Ev.bnd (decImpl _ hc.1 hc.2) (Ev.pos g (Ev.pos (by omega) r2)))))), r3⟩
        rw [List.append_assoc, List.singleton_append] at r1
        have : ((P ++ [s.extract p q]).length : Int) = (P.length : Int) + 1 := by simp
        rw [this] at r1
        exact r1
      · exact ⟨(out, (p : Int)), spec1 _ (Ev.neg g (Ev.now _)), impl0 _ (Ev.bnd hcut (Ev.bind (chkImpl c _ hls h0 h1) (Ev.pos rfl (Ev.bnd (decImpl _ hc.1 hc.2) (Ev.neg g (Ev.now _)))))), by show out.length ≤ _; omega⟩
theorem recoverBoth (s : ByteArray) : ∃ r : List ByteArray × Int × Bool, Ev (fun k => spec_RecoverJournal.f k s) r ∧ Ev (fun k => impl_RecoverJournal.f k s) r ∧ r.1.length ≤ 1048576 := by
  by_cases c : (s.size : Int) > 16000
  · refine ⟨([], 0, false), ?_, ?_, by simp⟩
    · unfold spec_RecoverJournal.f; exact Ev.pos c (Ev.now _)
    · unfold impl_RecoverJournal.f; exact Ev.pos c (Ev.now _)
  · have hs : s.size ≤ 1048576 := by omega
    obtain ⟨L, hL⟩ := lines_ex s s.size 0 (by omega) (by omega)
    have hl := lines_len hL
    obtain ⟨z, hz⟩ := linesSpec hs hL
    obtain ⟨r, r1, r2, r3⟩ := both hs hL [] [] 0 (by simp; omega) (by simp; omega) (by omega) (by omega)
    rw [List.nil_append] at r1
    refine ⟨(r.1, r.2, true), ?_, ?_, r3⟩
    · unfold spec_RecoverJournal.f
      refine Ev.neg c (Ev.bind (a := r) ?_ (Ev.now _))
      unfold spec_l08Recover.f
      exact Ev.bind hz r1
    · unfold impl_RecoverJournal.f
      exact Ev.neg c (Ev.bind (a := r) r2 (Ev.now _))
theorem markRun (d : Nat) : ∀ (m : Nat) (x : ByteArray), m < 10 ^ d → x.size + d ≤ 100000 → m ≤ 1000000000 → ∃ t, Ev (fun k => laws_markText.l0 k (m : Int) x) t := by
  induction d with
  | zero =>
    intro m x hm hx _
    obtain rfl : m = 0 := by omega
    refine ⟨(⟨#[109]⟩ : ByteArray) ++ x, Ev.succ ?_⟩
    simp only [laws_markText.l0]
    exact Ev.neg (by omega) (Ev.pos (by omega) (Ev.now _))
  | succ d ih =>
    intro m x hm hx hb
    by_cases c : m = 0
    · subst c
      refine ⟨(⟨#[109]⟩ : ByteArray) ++ x, Ev.succ ?_⟩
      simp only [laws_markText.l0]
      exact Ev.neg (by omega) (Ev.pos (by omega) (Ev.now _))
    · have e2 : Int.tdiv (m : Int) 10 = ((m / 10 : Nat) : Int) := by rw [Int.tdiv_eq_ediv_of_nonneg (by omega)]; omega
      have hsz : ∀ a : Int, (strOfNums ([a] : List Int)).size = 1 := fun a => by rw [str_size]; rfl
      obtain ⟨t, ht⟩ := ih (m / 10) (strOfNums ([(wrap64 (48 + (Int.tmod (m : Int) 10))) % 256] : List Int) ++ x) (by rw [Nat.pow_succ] at hm; omega) (by rw [ByteArray.size_append, hsz]; omega) (by omega)
      refine ⟨t, Ev.succ ?_⟩
      simp only [laws_markText.l0]
      rw [e2, wrap_id (x := ((m / 10 : Nat) : Int)) (by omega) (by omega)]
      exact Ev.pos (by omega) (Ev.bnd rfl (Ev.pos (by rw [hsz]; omega) ht))
theorem markEx (n : Nat) (h1 : n ≤ 100000000) : ∃ t, Ev (fun k => laws_markText.f k (n : Int)) t := by
  by_cases c : n = 0
  · subst c
    exact ⟨_, Ev.pos (by omega) (Ev.now _)⟩
  · obtain ⟨t, ht⟩ := markRun 9 n ⟨#[]⟩ (by omega) (by show 0 + 9 ≤ _; omega) (by omega)
    exact ⟨t, Ev.neg (by omega) ht⟩
noncomputable def mkT (n : Nat) : ByteArray := @dite _ (∃ t, Ev (fun k => laws_markText.f k (n : Int)) t) (Classical.propDecidable _) (fun h => h.choose) (fun _ => ⟨#[]⟩)
theorem mkT_ev (n : Nat) (h1 : n ≤ 100000000) : Ev (fun k => laws_markText.f k (n : Int)) (mkT n) := by
  have h := markEx n h1
  unfold mkT
  rw [dif_pos h]
  exact h.choose_spec
noncomputable def mkL (n : Nat) : List ByteArray := (List.range n).map fun i => mkT (1 + i)
theorem mkL_len (n : Nat) : (mkL n).length = n := by simp [mkL]
theorem mkL_get (n i : Nat) (h : i < n) : (mkL n)[i]'(by rw [mkL_len]; exact h) = mkT (1 + i) := by simp [mkL]
theorem mkL_step (l : List ByteArray) (i : Nat) (h : i < l.length) : (mkL i ++ l.drop i).set i (mkT (1 + i)) = mkL (i + 1) ++ l.drop (i + 1) := by
  rw [List.set_append_right _ _ (by rw [mkL_len]; omega), mkL_len, Nat.sub_self, List.drop_eq_getElem_cons h, List.set_cons_zero]
  simp [mkL, List.range_succ]
theorem markStringS (l : List ByteArray) (hl : l.length ≤ 1048576) : Ev (fun k => laws_markStringS.f k l 1) (1 + (l.length : Int), mkL l.length) := by
  unfold laws_markStringS.f
  refine Ev.congr (fun k => ?_) (Ev.upto l.length (fun _ => True) (fun i => (mkL i ++ l.drop i, 1 + (i : Int))) (1 + (l.length : Int), mkL l.length) (fun k s i => laws_markStringS.l0 k s.1 s.2 i) (fun i hi _ ih => ?_) (fun _ => ?_) trivial)
  · simp [mkL]
  · refine Ev.succ ?_
    simp only [laws_markStringS.l0]
    refine Ev.pos (by rw [List.length_append, mkL_len, List.length_drop]; omega) ?_
    have hm := mkT_ev (1 + i) (by omega)
    rw [show ((1 + i : Nat) : Int) = 1 + (i : Int) from by omega] at hm
    refine Ev.bind hm (Ev.pos (by omega) ?_)
    rw [wrap_id (x := (i : Int) + 1) (by omega) (by omega), wrap_id (x := 1 + (i : Int) + 1) (by omega) (by omega), Int.toNat_natCast, mkL_step l i hi]
    have := ih trivial
    rw [show 1 + ((i + 1 : Nat) : Int) = 1 + (i : Int) + 1 by omega] at this
    exact this
  · refine Ev.succ ?_
    simp only [laws_markStringS.l0]
    have e : mkL l.length ++ l.drop l.length = mkL l.length := by rw [List.drop_length, List.append_nil]
    rw [e]
    exact Ev.neg (by rw [mkL_len]; omega) (Ev.now _)
theorem heldStringS (n : Nat) (hl : n ≤ 1048576) : Ev (fun k => laws_heldStringS.f k (mkL n) 1) (1 + (n : Int)) := by
  unfold laws_heldStringS.f
  refine Ev.congr (fun k => ?_) (Ev.upto n (fun _ => True) (fun i => 1 + (i : Int)) (1 + (n : Int)) (fun k s i => laws_heldStringS.l0 k (mkL n) s i) (fun i hi _ ih => ?_) (fun _ => ?_) trivial)
  · simp
  · refine Ev.succ ?_
    simp only [laws_heldStringS.l0]
    refine Ev.pos (by rw [mkL_len]; omega) (Ev.pos (by omega) ?_)
    have hm := mkT_ev (1 + i) (by omega)
    rw [show ((1 + i : Nat) : Int) = 1 + (i : Int) from by omega] at hm
    refine Ev.bind hm ?_
    rw [rdB_lt (mkL n) i (by rw [mkL_len]; exact hi), mkL_get n i hi]
    refine Ev.pos (by first | trivial | rfl) ?_
    rw [wrap_id (x := (i : Int) + 1) (by omega) (by omega), wrap_id (x := 1 + (i : Int) + 1) (by omega) (by omega)]
    have := ih trivial
    rw [show 1 + ((i + 1 : Nat) : Int) = 1 + (i : Int) + 1 by omega] at this
    exact this
  · refine Ev.succ ?_
    simp only [laws_heldStringS.l0]
    exact Ev.neg (by rw [mkL_len]; omega) (Ev.now _)
theorem FnExactRecoverJournal : laws_FnExactRecoverJournal.Pure := by
  intro s _
  refine Ev.rounds ?_
  unfold laws_FnExactRecoverJournal.f
  by_cases c : (s.size : Int) > 1048576
  · exact Ev.pos c (Ev.now _)
  · obtain ⟨r, r1, r2, r3⟩ := recoverBoth s
    refine Ev.neg c (Ev.bind r1 (Ev.bind r2 (Ev.bind (eqStringS r.1 (by omega)) (Ev.pos rfl (Ev.pos rfl (Ev.succ ?_))))))
    simp only [laws_FnExactRecoverJournal.j0]
    refine Ev.neg (by simp) (Ev.bind (markStringS r.1 r3) (Ev.bind (heldStringS r.1.length r3) (Ev.neg (by omega) (Ev.pos rfl ?_))))
    refine Ev.bind r2 (Ev.bind (eqStringS r.1 (by omega)) (Ev.pos rfl (Ev.pos rfl (Ev.succ ?_))))
    simp only [laws_FnExactRecoverJournal.j1]
    exact Ev.neg (by simp) (Ev.bind (heldStringS r.1.length r3) (Ev.neg (by omega) (Ev.pos rfl (Ev.now _))))

end Go.Proofs.YtnkmojmcdcjkmaaDoor.Pure

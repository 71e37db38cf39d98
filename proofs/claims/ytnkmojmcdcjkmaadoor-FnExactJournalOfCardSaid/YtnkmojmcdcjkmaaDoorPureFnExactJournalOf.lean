/- JournalOf of the program and of the reference answer the same for every list of strings. -/
import Derived.Test.YtnkmojmcdcjkmaaDoorPFnExactJournalOfx0
import Derived.Test.YtnkmojmcdcjkmaaDoorPFnExactJournalOfx1
import Derived.Test.YtnkmojmcdcjkmaaDoorLib
namespace Go.Proofs.YtnkmojmcdcjkmaaDoor.Pure
open Go.RowKit Go.Proofs.YtnkmojmcdcjkmaaDoor.PFnExactJournalOf Go.Proofs.YtnkmojmcdcjkmaaDoorW.PrintWords Go.Proofs.YtnkmojmcdcjkmaaDoorW.PrintLast Go.Proofs.YtnkmojmcdcjkmaaDoor.L
set_option linter.unusedVariables false
set_option linter.unusedSimpArgs false

theorem within (a b c : Int) : impl_within.f a b c = some (decide (b ≤ a ∧ a ≤ c)) := by
  unfold impl_within.f
  by_cases h : a ≥ b
  · rw [if_pos h]; simp; omega
  · rw [if_neg h]; simp; omega

theorem rdB_lt (l : List ByteArray) (i : Nat) (h : i < l.length) : rdOf ByteArray.empty l (i : Int) = l[i] := by
  unfold rdOf; rw [Int.toNat_natCast, List.getD_eq_getElem?_getD, List.getElem?_eq_getElem h]; rfl
theorem takeSetB (l : List ByteArray) (e : ByteArray) (i : Nat) (h : i < l.length) : (l.take i ++ List.replicate (l.length - i) e).set i l[i] = l.take (i + 1) ++ List.replicate (l.length - (i + 1)) e := by
  have hi : (l.take i).length = i := List.length_take_of_le (by omega)
  rw [List.set_append_right _ _ (by omega), hi, Nat.sub_self]
  have : l.length - i = (l.length - (i + 1)) + 1 := by omega
  rw [this, List.replicate_succ, List.set_cons_zero, List.take_succ_eq_append_getElem h, List.append_assoc]
  rfl
theorem toStringS (l : List ByteArray) (hl : l.length ≤ 8796093022202) : Ev (fun k => laws_toStringS.f k l) l := by
  unfold laws_toStringS.f
  refine Ev.pos (by omega) (Ev.pos (by omega) ?_)
  refine Ev.cast (Ev.upto l.length (fun _ => True) (fun i => l.take i ++ List.replicate (l.length - i) (⟨#[]⟩ : ByteArray)) l (fun k s i => laws_toStringS.l0 k l s i) (fun i hi _ ih => ?_) (fun _ => ?_) trivial) rfl
  · refine Ev.succ ?_
    simp only [laws_toStringS.l0]
    refine Ev.pos (by omega) (Ev.pos (by omega) (Ev.pos (by simp; omega) ?_))
    rw [wrap_id (by omega) (by omega), Int.toNat_natCast, rdB_lt l i hi, takeSetB l _ i hi]
    exact ih trivial
  · refine Ev.succ ?_
    simp only [laws_toStringS.l0]
    exact Ev.neg (by omega) (Ev.val (by simp))
theorem eqStringS (l : List ByteArray) (hl : l.length ≤ 8796093022202) : Ev (fun k => laws_eqStringS.f k l l) true := by
  unfold laws_eqStringS.f
  refine Ev.pos rfl ?_
  refine Ev.upto l.length (fun _ => True) (fun _ => ()) true (fun k _ i => laws_eqStringS.l0 k l l i) (fun i hi _ ih => ?_) (fun _ => ?_) trivial
  · refine Ev.succ ?_
    simp only [laws_eqStringS.l0]
    refine Ev.pos (by omega) (Ev.pos (by omega) (Ev.pos (by omega) (Ev.pos (by first | trivial | rfl) ?_)))
    rw [wrap_id (by omega) (by omega)]
    exact ih trivial
  · refine Ev.succ ?_
    simp only [laws_eqStringS.l0]
    exact Ev.neg (by omega) (Ev.now _)
/-- The bytes of the first strings. -/
def tk (l : List ByteArray) : Nat → Nat
  | 0 => 0
  | i + 1 => tk l i + (rdOf ByteArray.empty l (i : Int)).size
theorem tk_mono (l : List ByteArray) (i d : Nat) : tk l i ≤ tk l (i + d) := by
  induction d with
  | zero => exact Nat.le_refl _
  | succ d ih => show _ ≤ tk l (i + d) + _; omega
theorem szStringS (l : List ByteArray) (hl : l.length ≤ 8796093022202) (hs : ∀ x ∈ l, x.size ≤ 140737488351232) : ∃ n, Ev (fun k => laws_szStringS.f k l 1048576) n ∧ (¬ n < 0 → tk l l.length + l.length ≤ 1048576) := by
  have main : ∀ d i : Nat, i + d = l.length → tk l i + l.length ≤ 1048576 → ∃ n, Ev (fun k => laws_szStringS.l0 k l ((1048576 : Int) - l.length - tk l i) (i : Int)) n ∧ (¬ n < 0 → tk l l.length + l.length ≤ 1048576) := by
    intro d
    induction d with
    | zero =>
      intro i hi ht
      obtain rfl : i = l.length := by omega
      refine ⟨(1048576 : Int) - l.length - tk l l.length, Ev.succ ?_, fun _ => ht⟩
      simp only [laws_szStringS.l0]
      exact Ev.neg (by omega) (Ev.now _)
    | succ d ih =>
      intro i hi ht
      have hx := hs _ (List.getElem_mem (by omega : i < l.length))
      have e := rdB_lt l i (by omega)
      have et : tk l (i + 1) = tk l i + (rdOf ByteArray.empty l (i : Int)).size := rfl
      rw [← e] at hx
      by_cases c : tk l (i + 1) + l.length ≤ 1048576
      · obtain ⟨n, hn, hh⟩ := ih (i + 1) (by omega) c
        refine ⟨n, Ev.succ ?_, hh⟩
        simp only [laws_szStringS.l0]
        rw [wrap_id (x := (i : Int) + 1) (by omega) (by omega), wrap_id (by omega) (by omega)]
        refine Ev.pos (by omega) (Ev.pos (by omega) (Ev.neg (by omega) ?_))
        rw [show (1048576 : Int) - l.length - tk l i - ((rdOf ByteArray.empty l (i : Int)).size : Int) = 1048576 - l.length - tk l (i + 1) from by omega]
        exact hn
      · refine ⟨-1, Ev.succ ?_, fun h => absurd (by omega) h⟩
        simp only [laws_szStringS.l0]
        rw [wrap_id (x := (1048576 : Int) - l.length - tk l i - ((rdOf ByteArray.empty l (i : Int)).size : Int)) (by omega) (by omega)]
        exact Ev.pos (by omega) (Ev.pos (by omega) (Ev.pos (by omega) (Ev.now _)))
  unfold laws_szStringS.f
  rw [wrap_id (by omega) (by omega)]
  by_cases c : (1048576 : Int) - l.length < 0
  · exact ⟨-1, Ev.pos c (Ev.now _), fun h => absurd (by omega) h⟩
  · obtain ⟨n, hn, hh⟩ := main l.length 0 (by omega) (by show 0 + _ ≤ _; omega)
    refine ⟨n, Ev.neg c ?_, hh⟩
    have e0 : (1048576 : Int) - l.length - (tk l 0 : Nat) = 1048576 - l.length := by show _ - ((0 : Nat) : Int) = _; omega
    rw [e0] at hn
    exact hn
theorem bt_at (s : ByteArray) (i : Nat) (h : i < s.size) : bt s (i : Int) = ((s[i]'h).toNat : Int) := by
  unfold bt; rw [dif_pos (by simpa using h)]; rfl
theorem bt_in (s : ByteArray) (i : Int) : 0 ≤ bt s i ∧ bt s i ≤ 255 := by
  unfold bt
  split
  · rename_i h
    have := UInt8.toNat_lt (s[i.toNat]'h)
    omega
  · omega
theorem line_iff (s : ByteArray) : (10 : UInt8) ∈ s.data.toList ↔ ∃ q : Nat, q < s.size ∧ bt s (q : Int) = 10 := by
  constructor
  · intro h
    obtain ⟨q, hq, e⟩ := List.getElem_of_mem h
    have hq' : q < s.size := by rw [Array.length_toList] at hq; exact hq
    refine ⟨q, hq', ?_⟩
    rw [bt_at s q hq']
    have : s[q] = (10 : UInt8) := by rw [← e]; rfl
    rw [this]; rfl
  · rintro ⟨q, hq, e⟩
    rw [bt_at s q hq] at e
    have : s[q] = (10 : UInt8) := by
      apply UInt8.toNat_inj.1
      show _ = 10
      omega
    rw [← this]
    exact List.getElem_mem (l := s.data.toList) (by rw [Array.length_toList]; exact hq)
theorem indexByte_two (l : List UInt8) (c : UInt8) : (Go.Lib.indexByte l c = -1 ∧ c ∉ l) ∨ (0 ≤ Go.Lib.indexByte l c ∧ c ∈ l) := by
  induction l with
  | nil => exact Or.inl ⟨rfl, by simp⟩
  | cons b l ih =>
    unfold Go.Lib.indexByte
    by_cases h : b = c
    · subst h; right; simp
    · have hb : (b == c) = false := by simpa using h
      rw [hb]
      rcases ih with ⟨h1, h2⟩ | ⟨h1, h2⟩
      · left; rw [h1]; exact ⟨rfl, by simp; exact ⟨fun e => h e.symm, h2⟩⟩
      · right
        have hn : (Go.Lib.indexByte l c == -1) = false := by simp; omega
        rw [hn]
        exact ⟨by simp; omega, List.mem_cons_of_mem _ h2⟩
theorem contains10 (s : ByteArray) (h : s.size < 4294967281) : strings_Contains.f s (⟨#[10]⟩ : ByteArray) = some (decide ((10 : UInt8) ∈ s.data.toList)) := by
  unfold strings_Contains.f
  rw [if_pos h]
  congr 1
  unfold Go.Lib.contains
  rw [show ((⟨#[10]⟩ : ByteArray).data.toList) = [(10 : UInt8)] from rfl, Go.Lib.index_one]
  rcases indexByte_two s.data.toList 10 with ⟨h1, h2⟩ | ⟨h1, h2⟩
  · rw [decide_eq_false h2, decide_eq_false (by omega)]
  · rw [decide_eq_true h2, decide_eq_true h1]
/-- The running check over the first bytes. -/
def chkN (c : Int) (s : ByteArray) : Nat → Int
  | 0 => c
  | i + 1 => Int.tmod (wrap64 ((wrap64 ((wrap64 (947 * chkN c s i)) + (wrap64 (bt s (i : Int))))) + 211)) 65003
theorem chk_in (c : Int) (s : ByteArray) (h0 : 0 ≤ c) (h1 : c ≤ 65002) (i : Nat) : 0 ≤ chkN c s i ∧ chkN c s i ≤ 65002 := by
  induction i with
  | zero => exact ⟨h0, h1⟩
  | succ i ih =>
    have hb := bt_in s (i : Int)
    unfold chkN
    rw [wrap_id (x := 947 * chkN c s i) (by omega) (by omega), wrap_id (x := bt s (i : Int)) (by omega) (by omega), wrap_id (x := 947 * chkN c s i + bt s (i : Int)) (by omega) (by omega), wrap_id (by omega) (by omega), Int.tmod_eq_emod_of_nonneg (by omega)]
    omega
theorem chkSpec (c : Int) (s : ByteArray) (hs : s.size ≤ 1048576) : Ev (fun k => spec_l01Check.f k c s) (chkN c s s.size) := by
  unfold spec_l01Check.f
  refine Ev.upto s.size (fun _ => True) (fun i => chkN c s i) _ (fun k x i => spec_l01Check.l0 k x s i) (fun i hi _ ih => ?_) (fun _ => ?_) trivial
  · refine Ev.succ ?_
    simp only [spec_l01Check.l0]
    refine Ev.pos (by omega) (Ev.pos (by omega) ?_)
    rw [wrap_id (x := (i : Int) + 1) (by omega) (by omega)]
    exact ih trivial
  · refine Ev.succ ?_
    simp only [spec_l01Check.l0]
    exact Ev.neg (by omega) (Ev.now _)
theorem chkImpl (c : Int) (s : ByteArray) (hs : s.size ≤ 1048576) (h0 : 0 ≤ c) (h1 : c ≤ 65002) : Ev (fun k => impl_CheckOf.f k c s) (chkN c s s.size, true) := by
  unfold impl_CheckOf.f
  refine Ev.bnd (within c 0 65002) (Ev.pos (by simp; omega) ?_)
  refine Ev.upto s.size (fun _ => True) (fun i => chkN c s i) _ (fun k x i => impl_CheckOf.l0 k x s (s.size : Int) i) (fun i hi _ ih => ?_) (fun _ => ?_) trivial
  · refine Ev.succ ?_
    simp only [impl_CheckOf.l0]
    refine Ev.pos (by omega) (Ev.pos (by omega) (Ev.pos (by omega) ?_))
    rw [wrap_id (x := (i : Int) + 1) (by omega) (by omega)]
    exact ih trivial
  · refine Ev.succ ?_
    simp only [impl_CheckOf.l0]
    exact Ev.neg (by omega) (Ev.now _)
def decB (u : Nat) : ByteArray := ⟨(Go.Lib.decDigits u).toArray⟩
theorem decLen (d : Nat) : ∀ m : Nat, m < 10 ^ (d + 1) → 1 ≤ (Go.Lib.decDigits m).length ∧ (Go.Lib.decDigits m).length ≤ d + 1 := by
  induction d with
  | zero =>
    intro m hm
    rw [Go.Lib.decDigits, dif_pos (by omega)]
    simp
  | succ d ih =>
    intro m hm
    rw [Go.Lib.decDigits]
    by_cases c : m < 10
    · rw [dif_pos c]; simp
    · rw [dif_neg c, List.length_append]
      have := ih (m / 10) (by rw [Nat.pow_succ] at hm; omega)
      simp; omega
theorem decB_size (m : Nat) (h : m ≤ 65002) : 1 ≤ (decB m).size ∧ (decB m).size ≤ 5 := by
  have := decLen 4 m (by omega)
  unfold decB
  simpa [ByteArray.size] using this
def decI (u : Nat) : List Int := (Go.Lib.decDigits u).map fun b => (b.toNat : Int)
theorem decI_str (u : Nat) : strOfNums (decI u) = decB u := by
  unfold strOfNums decI decB
  rw [List.map_map]
  congr 2
  apply (List.map_congr_left (g := id) ?_).trans (List.map_id _)
  intro b _
  simp
theorem decI_small (u : Nat) (h : u < 10) : decI u = [48 + (u : Int)] := by
  unfold decI
  rw [Go.Lib.decDigits, dif_pos h]
  have : (UInt8.ofNat (48 + u)).toNat = 48 + u := by rw [UInt8.toNat_ofNat']; omega
  simp only [List.map_cons, List.map_nil, this]
  congr 1
theorem decI_step (u : Nat) (h : ¬ u < 10) : decI u = decI (u / 10) ++ [48 + ((u % 10 : Nat) : Int)] := by
  unfold decI
  rw [Go.Lib.decDigits, dif_neg h, List.map_append]
  have : (UInt8.ofNat (48 + u % 10)).toNat = 48 + u % 10 := by rw [UInt8.toNat_ofNat']; omega
  simp only [List.map_cons, List.map_nil, this]
  congr 1
theorem decStep1 (x0 : Int) (m : Nat) (hm : m ≤ 1000000000) (x3 : List Int) (h3 : x3.length ≤ 1000) (hc : x3 = [] ∨ 0 < m) {r : ByteArray} (h : Ev (fun k => spec_l01Dec.l0 k x0 ((48 + ((m % 10 : Nat) : Int)) :: x3) ((m / 10 : Nat) : Int)) r) : Ev (fun k => spec_l01Dec.l0 k x0 x3 (m : Int)) r := by
  have e1 : Int.tmod (m : Int) 10 = ((m % 10 : Nat) : Int) := by rw [Int.tmod_eq_emod_of_nonneg (by omega)]; omega
  have e2 : Int.tdiv (m : Int) 10 = ((m / 10 : Nat) : Int) := by rw [Int.tdiv_eq_ediv_of_nonneg (by omega)]; omega
  have key : Ev (fun k => spec_l01Dec.j1 k x0 x3 (m : Int) true) r := by
    refine Ev.succ ?_
    simp only [spec_l01Dec.j1]
    rw [e1, e2, wrap_id (x := 48 + ((m % 10 : Nat) : Int)) (by omega) (by omega), wrap_id (x := ((m / 10 : Nat) : Int)) (by omega) (by omega), Int.emod_eq_of_lt (a := 48 + ((m % 10 : Nat) : Int)) (b := 256) (by omega) (by omega)]
    refine Ev.pos (by first | trivial | rfl) (Ev.neg (by omega) (Ev.bnd rfl (Ev.pos (by simp; omega) ?_)))
    exact h
  refine Ev.succ ?_
  simp only [spec_l01Dec.l0]
  rcases hc with rfl | hc
  · exact Ev.pos rfl key
  · by_cases c : (x3.length : Int) = 0
    · exact Ev.pos c key
    · refine Ev.neg c ?_
      rw [show (((m : Int)) != 0) = true from by simp; omega]
      exact key
theorem decEnd (x0 : Int) (h0 : 0 ≤ x0) (x3 : List Int) (h3 : x3 ≠ []) : Ev (fun k => spec_l01Dec.l0 k x0 x3 ((0 : Nat) : Int)) (strOfNums x3) := by
  refine Ev.succ ?_
  simp only [spec_l01Dec.l0]
  refine Ev.neg (by have := List.length_pos_iff.2 h3; omega) ?_
  refine Ev.succ ?_
  simp only [spec_l01Dec.j1]
  exact Ev.neg (by simp) (Ev.neg (by omega) (Ev.now _))
theorem decRun (x0 : Int) (h0 : 0 ≤ x0) (d : Nat) : ∀ (m : Nat) (x3 : List Int), m < 10 ^ (d + 1) → d ≤ 8 → x3.length + d ≤ 900 → (x3 = [] ∨ 0 < m) → Ev (fun k => spec_l01Dec.l0 k x0 x3 (m : Int)) (strOfNums (decI m ++ x3)) := by
  induction d with
  | zero =>
    intro m x3 hm _ hl hc
    refine decStep1 x0 m (by omega) x3 (by omega) hc ?_
    have : m / 10 = 0 := by omega
    rw [this, decI_small m (by omega), Nat.mod_eq_of_lt (by omega)]
    exact decEnd x0 h0 _ (by simp)
  | succ d ih =>
    intro m x3 hm hd hl hc
    have h9 : 10 ^ (d + 1 + 1) ≤ 10 ^ 9 := Nat.pow_le_pow_right (by omega) (by omega)
    refine decStep1 x0 m (by omega) x3 (by omega) hc ?_
    by_cases c : m < 10
    · have : m / 10 = 0 := by omega
      rw [this, decI_small m c, Nat.mod_eq_of_lt c]
      exact decEnd x0 h0 _ (by simp)
    · refine Ev.cast (ih (m / 10) _ (by rw [Nat.pow_succ] at hm; omega) (by omega) (by simp; omega) (Or.inr (by omega))) ?_
      rw [decI_step m c, List.append_assoc]; rfl
theorem decSpec (n : Int) (h0 : 0 ≤ n) (h1 : n ≤ 65002) : Ev (fun k => spec_l01Dec.f k n) (decB n.toNat) := by
  obtain ⟨m, rfl⟩ := Int.eq_ofNat_of_zero_le h0
  unfold spec_l01Dec.f
  refine Ev.cast (decRun (m : Int) h0 4 m [] (by omega) (by omega) (by simp) (Or.inl rfl)) ?_
  rw [List.append_nil, decI_str, Int.toNat_natCast]
theorem decImpl (n : Int) (h0 : 0 ≤ n) (h1 : n ≤ 65002) : impl_Decimal.f n = some (decB n.toNat) := by
  unfold impl_Decimal.f strconv_FormatInt.f
  rw [if_pos rfl, if_pos (by omega), if_pos (by omega), Option.bind_some]
  unfold Go.Lib.itoa decB
  rw [if_neg (by omega)]
/-- The journal's text and the running check behind the first strings. -/
def jS (l : List ByteArray) : Nat → ByteArray × Int
  | 0 => (⟨#[]⟩, 0)
  | i + 1 => ((jS l i).1 ++ (((decB (chkN (jS l i).2 (rdOf ByteArray.empty l (i : Int)) (rdOf ByteArray.empty l (i : Int)).size).toNat ++ (⟨#[32]⟩ : ByteArray)) ++ rdOf ByteArray.empty l (i : Int)) ++ (⟨#[10]⟩ : ByteArray)), chkN (jS l i).2 (rdOf ByteArray.empty l (i : Int)) (rdOf ByteArray.empty l (i : Int)).size)
theorem jS_in (l : List ByteArray) (i : Nat) : 0 ≤ (jS l i).2 ∧ (jS l i).2 ≤ 65002 := by
  induction i with
  | zero => unfold jS; omega
  | succ i ih => exact chk_in _ _ ih.1 ih.2 _
theorem jS_size (l : List ByteArray) (i : Nat) : ∃ q : Nat, 1 ≤ q ∧ q ≤ 5 ∧ (decB (jS l (i + 1)).2.toNat).size = q ∧ (jS l (i + 1)).1.size = (jS l i).1.size + (q + 1 + (rdOf ByteArray.empty l (i : Int)).size + 1) := by
  have hc := jS_in l (i + 1)
  have hd := decB_size (jS l (i + 1)).2.toNat (by omega)
  refine ⟨_, hd.1, hd.2, rfl, ?_⟩
  show ((jS l i).1 ++ (((decB (jS l (i + 1)).2.toNat ++ (⟨#[32]⟩ : ByteArray)) ++ rdOf ByteArray.empty l (i : Int)) ++ (⟨#[10]⟩ : ByteArray))).size = _
  rw [ByteArray.size_append, ByteArray.size_append, ByteArray.size_append, ByteArray.size_append]
  rfl
theorem jS_bound (l : List ByteArray) (i : Nat) : tk l i + 3 * i ≤ (jS l i).1.size ∧ (jS l i).1.size ≤ tk l i + 7 * i := by
  induction i with
  | zero => exact ⟨Nat.le_refl _, Nat.le_refl _⟩
  | succ i ih =>
    obtain ⟨q, h1, h2, _, h3⟩ := jS_size l i
    have : tk l (i + 1) = tk l i + (rdOf ByteArray.empty l (i : Int)).size := rfl
    omega
theorem jS_mono (l : List ByteArray) (i d : Nat) : (jS l i).1.size ≤ (jS l (i + d)).1.size := by
  induction d with
  | zero => exact Nat.le_refl _
  | succ d ih =>
    obtain ⟨q, h1, h2, _, h3⟩ := jS_size l (i + d)
    have : i + (d + 1) = i + d + 1 := by omega
    rw [this]
    omega
def lineIn (l : List ByteArray) (i : Nat) : Prop := (10 : UInt8) ∈ (rdOf ByteArray.empty l (i : Int)).data.toList
def jOk (l : List ByteArray) : Prop := (∀ i, i < l.length → ¬ lineIn l i) ∧ (jS l l.length).1.size ≤ 16000
noncomputable def jRes (l : List ByteArray) : ByteArray × Bool := @ite _ (jOk l) (Classical.propDecidable _) ((jS l l.length).1, true) (⟨#[]⟩, false)
theorem jRes_yes {l : List ByteArray} (h : jOk l) : jRes l = ((jS l l.length).1, true) := if_pos h
theorem jRes_no {l : List ByteArray} (h : ¬ jOk l) : jRes l = (⟨#[]⟩, false) := if_neg h
theorem jRes_line {l : List ByteArray} {i : Nat} (h : i < l.length) (hl : lineIn l i) : jRes l = (⟨#[]⟩, false) := jRes_no fun g => g.1 i h hl
theorem jRes_long {l : List ByteArray} {i : Nat} (h : i ≤ l.length) (hl : 16000 < (jS l i).1.size) : jRes l = (⟨#[]⟩, false) := jRes_no fun g => by
  have := jS_mono l i (l.length - i)
  rw [show i + (l.length - i) = l.length from by omega] at this
  have := g.2
  omega
theorem size_in {l : List ByteArray} (hb : tk l l.length + l.length ≤ 1048576) {i : Nat} (h : i < l.length) : (rdOf ByteArray.empty l (i : Int)).size ≤ 1048576 := by
  have h1 : tk l (i + 1) = tk l i + (rdOf ByteArray.empty l (i : Int)).size := rfl
  have h2 := tk_mono l (i + 1) (l.length - (i + 1))
  rw [show i + 1 + (l.length - (i + 1)) = l.length from by omega] at h2
  omega
theorem tk_in {l : List ByteArray} (hb : tk l l.length + l.length ≤ 1048576) {i : Nat} (h : i ≤ l.length) : tk l i ≤ 1048576 := by
  have h2 := tk_mono l i (l.length - i)
  rw [show i + (l.length - i) = l.length from by omega] at h2
  omega
theorem jImpl (l : List ByteArray) (hb : tk l l.length + l.length ≤ 1048576) : Ev (fun k => impl_JournalOf.f k l) (jRes l) := by
  have main : ∀ d i : Nat, i + d = l.length → (∀ j, j < i → ¬ lineIn l j) → (jS l i).1.size ≤ 16000 → Ev (fun k => impl_JournalOf.l0 k l (jS l i).1 (jS l i).2 (i : Int)) (jRes l) := by
    intro d
    induction d with
    | zero =>
      intro i hi hn hz
      obtain rfl : i = l.length := by omega
      refine Ev.succ ?_
      simp only [impl_JournalOf.l0]
      exact Ev.neg (by omega) (Ev.val (by rw [jRes_yes ⟨hn, hz⟩]))
    | succ d ih =>
      intro i hi hn hz
      have hs := size_in hb (i := i) (by omega)
      have hc := jS_in l i
      have hc' := jS_in l (i + 1)
      obtain ⟨q, q1, q2, q3, q4⟩ := jS_size l i
      refine Ev.succ ?_
      simp only [impl_JournalOf.l0]
      refine Ev.pos (by omega) (Ev.pos (by omega) (Ev.bnd (contains10 _ (by omega)) ?_))
      by_cases g : lineIn l i
      · exact Ev.pos (decide_eq_true g) (Ev.val (by rw [jRes_line (by omega) g]))
      · refine Ev.neg (by rw [decide_eq_true_eq]; exact g) (Ev.bind (chkImpl (jS l i).2 _ hs hc.1 hc.2) ?_)
        refine Ev.bnd (decImpl (jS l (i + 1)).2 hc'.1 hc'.2) ?_
        rw [q3, ← q4, wrap_id (x := (i : Int) + 1) (by omega) (by omega)]
        have hbd := jS_bound l (i + 1)
        have htk := tk_in hb (i := i + 1) (by omega)
        refine Ev.pos (by omega) ?_
        by_cases gz : (jS l (i + 1)).1.size ≤ 16000
        · refine Ev.neg (by omega) ?_
          refine ih (i + 1) (by omega) (fun j hj => ?_) gz
          by_cases e : j = i
          · subst e; exact g
          · exact hn j (by omega)
        · exact Ev.pos (by omega) (Ev.val (by rw [jRes_long (i := i + 1) (by omega) (by omega)]))
  exact main l.length 0 (by omega) (fun j hj => by omega) (by show 0 ≤ 16000; omega)
theorem jText (l : List ByteArray) (hb : tk l l.length + l.length ≤ 1048576) : Ev (fun k => spec_l08Journal.f k l) (jS l l.length).1 := by
  unfold spec_l08Journal.f
  refine Ev.upto l.length (fun _ => True) (fun i => jS l i) _ (fun k x i => spec_l08Journal.l0 k l x.1 x.2 i) (fun i hi _ ih => ?_) (fun _ => ?_) trivial
  · have hs := size_in hb (i := i) (by omega)
    have hc := jS_in l i
    have hc' := jS_in l (i + 1)
    obtain ⟨q, q1, q2, q3, q4⟩ := jS_size l i
    have hbd := jS_bound l (i + 1)
    have htk := tk_in hb (i := i + 1) (by omega)
    refine Ev.succ ?_
    simp only [spec_l08Journal.l0]
    refine Ev.pos (by omega) (Ev.pos (by omega) (Ev.bind (chkSpec (jS l i).2 _ hs) ?_))
    refine Ev.bind (decSpec (jS l (i + 1)).2 hc'.1 hc'.2) ?_
    rw [q3, wrap_id (x := (i : Int) + 1) (by omega) (by omega)]
    exact Ev.pos (by omega) (Ev.pos (by omega) (Ev.pos (by omega) (Ev.pos (by omega) (ih trivial))))
  · refine Ev.succ ?_
    simp only [spec_l08Journal.l0]
    exact Ev.neg (by omega) (Ev.now _)
theorem jSpec (l : List ByteArray) (hb : tk l l.length + l.length ≤ 1048576) : Ev (fun k => spec_JournalOf.f k l) (jRes l) := by
  have main : ∀ d i : Nat, i + d = l.length → (∀ j, j < i → ¬ lineIn l j) → Ev (fun k => spec_JournalOf.l0 k l ((tk l i + 3 * i : Nat) : Int) (i : Int)) (jRes l) := by
    intro d
    induction d with
    | zero =>
      intro i hi hn
      obtain rfl : i = l.length := by omega
      refine Ev.succ ?_
      simp only [spec_JournalOf.l0]
      refine Ev.neg (by omega) (Ev.bind (jText l hb) ?_)
      by_cases gz : (jS l l.length).1.size ≤ 16000
      · exact Ev.neg (by omega) (Ev.val (by rw [jRes_yes ⟨hn, gz⟩]))
      · exact Ev.pos (by omega) (Ev.val (by rw [jRes_long (i := l.length) (by omega) (by omega)]))
    | succ d ih =>
      intro i hi hn
      have hs := size_in hb (i := i) (by omega)
      have htk := tk_in hb (i := i + 1) (by omega)
      have htk0 := tk_in hb (i := i) (by omega)
      have hbd := jS_bound l (i + 1)
      have et : tk l (i + 1) = tk l i + (rdOf ByteArray.empty l (i : Int)).size := rfl
      refine Ev.succ ?_
      simp only [spec_JournalOf.l0]
      refine Ev.pos (by omega) (Ev.pos (by omega) ?_)
      rw [wrap_id (x := ((rdOf ByteArray.empty l (i : Int)).size : Int) + 3) (by omega) (by omega), wrap_id (by omega) (by omega), show ((tk l i + 3 * i : Nat) : Int) + (((rdOf ByteArray.empty l (i : Int)).size : Int) + 3) = ((tk l (i + 1) + 3 * (i + 1) : Nat) : Int) from by omega]
      by_cases gz : 16000 < tk l (i + 1) + 3 * (i + 1)
      · exact Ev.pos (by omega) (Ev.val (by rw [jRes_long (i := i + 1) (by omega) (by omega)]))
      · refine Ev.neg (by omega) ?_
        refine Ev.upto (rdOf ByteArray.empty l (i : Int)).size (fun p => ∀ j : Nat, j < p → bt (rdOf ByteArray.empty l (i : Int)) (j : Int) ≠ 10) (fun _ => ()) (jRes l) (fun k _ p => spec_JournalOf.l1 k l ((tk l (i + 1) + 3 * (i + 1) : Nat) : Int) (i : Int) p) (fun p hp hq ih1 => ?_) (fun hq => ?_) (fun j hj => by omega)
        · refine Ev.succ ?_
          simp only [spec_JournalOf.l1]
          refine Ev.pos (by omega) (Ev.pos (by omega) (Ev.pos (by omega) (Ev.pos (by omega) ?_)))
          by_cases e : bt (rdOf ByteArray.empty l (i : Int)) (p : Int) = 10
          · exact Ev.pos e (Ev.val (by rw [jRes_line (i := i) (by omega) ((line_iff _).2 ⟨p, hp, e⟩)]))
          · refine Ev.neg e ?_
            rw [wrap_id (x := (p : Int) + 1) (by omega) (by omega)]
            refine ih1 (fun j hj => ?_)
            by_cases ej : j = p
            · subst ej; exact e
            · exact hq j (by omega)
        · refine Ev.succ ?_
          simp only [spec_JournalOf.l1]
          refine Ev.pos (by omega) (Ev.pos (by omega) (Ev.neg (by omega) ?_))
          rw [wrap_id (x := (i : Int) + 1) (by omega) (by omega)]
          refine ih (i + 1) (by omega) (fun j hj => ?_)
          by_cases ej : j = i
          · subst ej
            intro hl
            obtain ⟨q, hq1, hq2⟩ := (line_iff _).1 hl
            exact hq q hq1 hq2
          · exact hn j (by omega)
  exact main l.length 0 (by omega) (fun j hj => by omega)
theorem FnExactJournalOf : laws_FnExactJournalOf.Pure := by
  intro l ⟨hx, hn, _⟩
  have hl : l.length ≤ 8796093022202 := by omega
  refine Ev.rounds ?_
  unfold laws_FnExactJournalOf.f
  obtain ⟨n, h1, h2⟩ := szStringS l hl hx
  refine Ev.bind h1 ?_
  by_cases c : n < 0
  · exact Ev.pos c (Ev.now _)
  · have hb := h2 c
    refine Ev.neg c (Ev.bind (toStringS l hl) (Ev.bind (jSpec l hb) (Ev.bind (toStringS l hl) (Ev.bind (jImpl l hb) (Ev.pos rfl (Ev.succ ?_))))))
    simp only [laws_FnExactJournalOf.j0]
    exact Ev.neg (by simp) (Ev.bind (toStringS l hl) (Ev.bind (eqStringS l hl) (Ev.pos rfl (Ev.now _))))

end Go.Proofs.YtnkmojmcdcjkmaaDoor.Pure

/- CountOutputs of the program and of the reference answer the same for every text. -/
import Derived.Test.YtjhodohmifemiaaDoorPFnExactCountOutputsx0
import Derived.Test.YtjhodohmifemiaaDoorPFnExactCountOutputsx1
import Derived.Test.YtjhodohmifemiaaDoorLib
namespace Go.Proofs.YtjhodohmifemiaaDoor.Pure
open Go.RowKit Go.Proofs.YtjhodohmifemiaaDoor.PFnExactCountOutputs Go.Proofs.YtjhodohmifemiaaDoorW.PrintWords Go.Proofs.YtjhodohmifemiaaDoorW.PrintLast Go.Proofs.YtjhodohmifemiaaDoor.L
set_option linter.unusedVariables false
set_option linter.unusedSimpArgs false

theorem rdB_lt (l : List ByteArray) (i : Nat) (h : i < l.length) : rdOf ByteArray.empty l (i : Int) = l[i] := by
  unfold rdOf; rw [Int.toNat_natCast, List.getD_eq_getElem?_getD, List.getElem?_eq_getElem h]; rfl
theorem bt_at (s : ByteArray) (i : Nat) (h : i < s.size) : bt s (i : Int) = ((s[i]'h).toNat : Int) := by
  unfold bt; rw [dif_pos (by simpa using h)]; rfl
theorem indexByte_two (l : List UInt8) (c : UInt8) : (Go.Lib.indexByte l c = -1 ∧ c ∉ l) ∨ (0 ≤ Go.Lib.indexByte l c ∧ c ∈ l) := by
  induction l with
  | nil => exact Or.inl ⟨rfl, by simp⟩
  | cons b l ih =>
    unfold Go.Lib.indexByte
    by_cases h : b = c
    · subst h; right; simp
    · have hb : (b == c) = false := by simpa using h
      rw [hb]
      rcases ih with ⟨h1, h2⟩ | ⟨h1, h2⟩
      · left; rw [h1]; exact ⟨rfl, by simp; exact ⟨fun e => h e.symm, h2⟩⟩
      · right
        have hn : (Go.Lib.indexByte l c == -1) = false := by simp; omega
        rw [hn]
        exact ⟨by simp; omega, List.mem_cons_of_mem _ h2⟩
theorem firstAt (s : ByteArray) (c : Int) (n : Nat) : ∀ (d p : Nat), p + d = n → ∃ q : Nat, p ≤ q ∧ q ≤ n ∧ (∀ j : Nat, p ≤ j → j < q → bt s (j : Int) ≠ c) ∧ (q = n ∨ q < n ∧ bt s (q : Int) = c) := by
  intro d
  induction d with
  | zero => intro p h; exact ⟨p, Nat.le_refl _, by omega, fun j h1 h2 => by omega, Or.inl (by omega)⟩
  | succ d ih =>
    intro p h
    by_cases e : bt s (p : Int) = c
    · exact ⟨p, Nat.le_refl _, by omega, fun j h1 h2 => by omega, Or.inr ⟨by omega, e⟩⟩
    · obtain ⟨q, h1, h2, h3, h4⟩ := ih (p + 1) (by omega)
      refine ⟨q, by omega, h2, fun j j1 j2 => ?_, h4⟩
      by_cases ej : j = p
      · subst ej; exact e
      · exact h3 j (by omega) j2
theorem at_iff (s : ByteArray) (j : Nat) (c : UInt8) : s.data.toList[j]? = some c ↔ j < s.size ∧ bt s (j : Int) = (c.toNat : Int) := by
  constructor
  · intro h
    obtain ⟨hj, e⟩ := List.getElem?_eq_some_iff.1 h
    have hj' : j < s.size := by rw [Array.length_toList] at hj; exact hj
    refine ⟨hj', ?_⟩
    rw [bt_at s j hj', ← e]; rfl
  · rintro ⟨hj, e⟩
    rw [bt_at s j hj] at e
    have hj' : j < s.data.toList.length := by rw [Array.length_toList]; exact hj
    rw [List.getElem?_eq_getElem hj']
    congr 1
    apply UInt8.toNat_inj.1
    have : s.data.toList[j] = s[j] := rfl
    rw [this]
    omega
theorem indexByte_hit (c : UInt8) : ∀ (l : List UInt8) (e : Nat), l[e]? = some c → (∀ j, j < e → l[j]? ≠ some c) → Go.Lib.indexByte l c = (e : Int) := by
  intro l
  induction l with
  | nil => intro e h _; simp at h
  | cons b l ih =>
    intro e h hn
    unfold Go.Lib.indexByte
    cases e with
    | zero =>
      have : b = c := by simpa using h
      subst this; simp
    | succ e =>
      have hb : (b == c) = false := by
        have := hn 0 (by omega)
        simpa using this
      have := ih e (by simpa using h) (fun j hj => by have := hn (j + 1) (by omega); simpa using this)
      rw [hb, this]
      have h2 : (((e : Nat) : Int) == -1) = false := by rw [beq_eq_false_iff_ne]; omega
      rw [h2]
      simp
theorem idx_hit (s : ByteArray) (c : UInt8) (e : Nat) (he : e < s.size) (hn : ∀ j : Nat, j < e → bt s (j : Int) ≠ (c.toNat : Int)) (hc : bt s (e : Int) = (c.toNat : Int)) : Go.Lib.indexByte s.data.toList c = (e : Int) := by
  refine indexByte_hit c _ e ((at_iff s e c).2 ⟨he, hc⟩) (fun j hj h => ?_)
  exact hn j hj ((at_iff s j c).1 h).2
theorem idx_none (s : ByteArray) (c : UInt8) (hn : ∀ j : Nat, j < s.size → bt s (j : Int) ≠ (c.toNat : Int)) : Go.Lib.indexByte s.data.toList c = -1 := by
  rcases indexByte_two s.data.toList c with ⟨h, _⟩ | ⟨_, h⟩
  · exact h
  · obtain ⟨j, hj, e⟩ := List.getElem_of_mem h
    have := (at_iff s j c).1 (by rw [List.getElem?_eq_getElem hj, e])
    exact absurd this.2 (hn j this.1)
theorem bt_extract (s : ByteArray) (p q j : Nat) (hq : q ≤ s.size) (h : p + j < q) : bt (s.extract p q) (j : Int) = bt s ((p + j : Nat) : Int) := by
  have hz : j < (s.extract p q).size := by rw [ByteArray.size_extract]; omega
  rw [bt_at _ _ hz, bt_at _ _ (by omega : p + j < s.size), ByteArray.getElem_extract]
theorem ext_sz (s : ByteArray) (p q : Nat) (hq : q ≤ s.size) : (s.extract p q).size = q - p := by rw [ByteArray.size_extract]; omega
theorem cutSkip {s : ByteArray} (hs : s.size ≤ 1048576) {out : List ByteArray} {f : Int} {r : List ByteArray} {q : Nat} (hq : q ≤ s.size) (d : Nat) : ∀ p : Nat, p + d = q → (∀ j : Nat, p ≤ j → j < q → bt s (j : Int) ≠ 10) → Ev (fun k => spec_l01Cut.l0 k s 10 out f (q : Int)) r → Ev (fun k => spec_l01Cut.l0 k s 10 out f (p : Int)) r := by
  induction d with
  | zero => intro p hp _ h; obtain rfl : p = q := by omega
            exact h
  | succ d ih =>
    intro p hp hn h
    refine Ev.succ ?_
    simp only [spec_l01Cut.l0]
    refine Ev.pos (by omega) (Ev.neg (by omega) (Ev.pos (by omega) (Ev.pos (by omega) (Ev.neg (hn p (by omega) (by omega)) ?_))))
    rw [wrap_id (x := (p : Int) + 1) (by omega) (by omega)]
    exact ih (p + 1) (by omega) (fun j j1 j2 => hn j (by omega) j2) h
/-- The lines of s from p on; what stands behind the last newline is none. -/
inductive Lines (s : ByteArray) : Nat → List ByteArray → Nat → Prop
  | last (p : Nat) (h : p ≤ s.size) (hn : ∀ j : Nat, p ≤ j → j < s.size → bt s (j : Int) ≠ 10) : Lines s p [] p
  | line (p q e : Nat) (L : List ByteArray) (h : p ≤ q) (hq : q < s.size) (hn : ∀ j : Nat, p ≤ j → j < q → bt s (j : Int) ≠ 10) (he : bt s (q : Int) = 10) (ht : Lines s (q + 1) L e) : Lines s p (s.extract p q :: L) e
theorem lines_ex (s : ByteArray) : ∀ (d p : Nat), p ≤ s.size → s.size - p ≤ d → ∃ L e, Lines s p L e := by
  intro d
  induction d with
  | zero =>
    intro p h hd
    exact ⟨[], p, .last p h fun j h1 h2 => by omega⟩
  | succ d ih =>
    intro p h hd
    obtain ⟨q, h1, h2, h3, h4⟩ := firstAt s 10 s.size (s.size - p) p (by omega)
    rcases h4 with rfl | ⟨h4, h5⟩
    · exact ⟨[], p, .last p h h3⟩
    · obtain ⟨L, e, hL⟩ := ih (q + 1) (by omega) (by omega)
      exact ⟨_, e, .line p q e L h1 h4 h3 h5 hL⟩
theorem lines_len {s : ByteArray} {p : Nat} {L : List ByteArray} {e : Nat} (h : Lines s p L e) : p + L.length ≤ s.size := by
  induction h with
  | last p h _ => simpa using h
  | line p q e L h hq _ _ _ ih => rw [List.length_cons]; omega
theorem cutLines {s : ByteArray} (hs : s.size ≤ 1048576) {p : Nat} {L : List ByteArray} {e : Nat} (h : Lines s p L e) : ∀ out : List ByteArray, out.length + L.length ≤ 8000000000000 → Ev (fun k => spec_l01Cut.l0 k s 10 out (p : Int) (p : Int)) (out ++ L ++ [s.extract e s.size]) := by
  induction h with
  | last p h hn =>
    intro out ho
    rw [List.length_nil] at ho
    refine cutSkip hs (Nat.le_refl _) (s.size - p) p (by omega) hn ?_
    refine Ev.succ ?_
    simp only [spec_l01Cut.l0]
    refine Ev.pos (by omega) (Ev.pos (by first | trivial | rfl) (Ev.pos (by omega) (Ev.pos (by omega) (Ev.pos (by omega) ?_))))
    rw [wrap_id (x := (s.size : Int) + 1) (by omega) (by omega), Int.toNat_natCast, Int.toNat_natCast]
    refine Ev.succ ?_
    simp only [spec_l01Cut.l0]
    exact Ev.neg (by omega) (Ev.val (by rw [List.append_nil]))
  | line p q e L h hq hn he ht ih =>
    intro out ho
    rw [List.length_cons] at ho
    have hz := ih (out ++ [s.extract p q]) (by rw [List.length_append]; simp; omega)
    refine cutSkip hs (by omega) (q - p) p (by omega) hn ?_
    refine Ev.succ ?_
    simp only [spec_l01Cut.l0]
    refine Ev.pos (by omega) (Ev.neg (by omega) (Ev.pos (by omega) (Ev.pos (by omega) (Ev.pos he (Ev.pos (by omega) (Ev.pos (by omega) (Ev.pos (by omega) ?_)))))))
    rw [wrap_id (x := (q : Int) + 1) (by omega) (by omega), Int.toNat_natCast, Int.toNat_natCast]
    refine Ev.cast hz ?_
    rw [List.append_assoc out, List.singleton_append]
theorem linesSpec {s : ByteArray} (hs : s.size ≤ 1048576) {L : List ByteArray} {e : Nat} (h : Lines s 0 L e) : Ev (fun k => spec_l08Lines.f k s) (L, s.extract e s.size) := by
  have hl := lines_len h
  have hz := cutLines hs h [] (by rw [List.length_nil]; omega)
  rw [List.nil_append] at hz
  unfold spec_l08Lines.f
  have hz' : Ev (fun k => spec_l01Cut.f k s 10) (L ++ [s.extract e s.size]) := hz
  refine Ev.bind hz' ?_
  have e' : ((L ++ [s.extract e s.size]).length : Int) = (L.length : Int) + 1 := by simp
  rw [e', wrap_id (by omega) (by omega), show (L.length : Int) + 1 - 1 = (L.length : Int) from by omega]
  refine Ev.pos (by omega) (Ev.pos (by omega) (Ev.pos (by omega) (Ev.val ?_)))
  rw [Int.toNat_natCast, List.take_left, rdB_lt _ _ (by simp)]
  simp
theorem splitLines {s : ByteArray} {p : Nat} {L : List ByteArray} {e : Nat} (h : Lines s p L e) : Go.Lib.splitB (⟨#[10]⟩ : ByteArray) 0 (Go.Lib.countB (s.extract p s.size) (⟨#[10]⟩ : ByteArray)) (s.extract p s.size) = L ++ [s.extract e s.size] := by
  induction h with
  | last p h hn =>
    refine Go.Lib.splitB_miss _ _ _ _ ?_
    show Go.Lib.index _ [(10 : UInt8)] = -1
    rw [Go.Lib.index_one]
    refine idx_none _ 10 (fun j hj => ?_)
    rw [ext_sz _ _ _ (Nat.le_refl _)] at hj
    rw [bt_extract _ _ _ _ (Nat.le_refl _) (by omega)]
    exact hn _ (by omega) (by omega)
  | line p q e L h hq hn he ht ih =>
    have hi : Go.Lib.indexB (s.extract p s.size) (⟨#[10]⟩ : ByteArray) = ((q - p : Nat) : Int) := by
      show Go.Lib.index _ [(10 : UInt8)] = _
      rw [Go.Lib.index_one]
      refine idx_hit _ 10 (q - p) (by rw [ext_sz _ _ _ (Nat.le_refl _)]; omega) (fun j hj => ?_) ?_
      · rw [bt_extract _ _ _ _ (Nat.le_refl _) (by omega)]
        exact hn _ (by omega) (by omega)
      · rw [bt_extract _ _ _ _ (Nat.le_refl _) (by omega), show p + (q - p) = q from by omega]
        exact he
    have h1 : (⟨#[10]⟩ : ByteArray).size = 1 := rfl
    have ee : (s.extract p s.size).extract (q - p + (⟨#[10]⟩ : ByteArray).size) (s.extract p s.size).size = s.extract (q + 1) s.size := by
      rw [h1, ext_sz _ _ _ (Nat.le_refl _), ByteArray.extract_extract]
      congr 1 <;> omega
    have e0 : (s.extract p s.size).extract 0 (q - p + 0) = s.extract p q := by
      rw [ByteArray.extract_extract]
      congr 1 <;> omega
    rw [Go.Lib.countB_hit _ _ (q - p) (by rw [h1]; exact Nat.le_refl _) hi, Nat.add_comm 1, Go.Lib.splitB_hit _ _ _ _ (q - p) hi, ee, ih, e0]
    rfl

def hitB (x : ByteArray) : Bool := decide (x.toList = ([110, 111] : List UInt8)) || decide (x.toList = ([119, 104, 97, 116] : List UInt8))
def cntB (L : List ByteArray) : Nat → Int
  | 0 => 0
  | i + 1 => if hitB (rdOf ByteArray.empty L (i : Int)) = true then cntB L i + 1 else cntB L i
theorem cntB_in (L : List ByteArray) (i : Nat) : 0 ≤ cntB L i ∧ cntB L i ≤ i := by
  induction i with
  | zero => exact ⟨Int.le_refl _, Int.le_refl _⟩
  | succ i ih => unfold cntB; split <;> omega
theorem countSpec (L : List ByteArray) (hl : L.length ≤ 1048576) : Ev (fun k => spec_CountOutputs.l0 k L 0 0) (cntB L L.length, (L.length : Int) - cntB L L.length, true) := by
  refine Ev.upto L.length (fun _ => True) (fun i => cntB L i) _ (fun k x i => spec_CountOutputs.l0 k L x i) (fun i hi _ ih => ?_) (fun _ => ?_) trivial
  · have hc := cntB_in L i
    have ih := ih trivial
    have ec : cntB L (i + 1) = if hitB (rdOf ByteArray.empty L (i : Int)) = true then cntB L i + 1 else cntB L i := rfl
    rw [ec] at ih
    unfold hitB at ih
    refine Ev.succ ?_
    simp only [spec_CountOutputs.l0]
    rw [wrap_id (x := (i : Int) + 1) (by omega) (by omega), wrap_id (x := cntB L i + 1) (by omega) (by omega)]
    refine Ev.pos (by omega) (Ev.pos (by omega) ?_)
    by_cases g : (rdOf ByteArray.empty L (i : Int)).toList = ([110, 111] : List UInt8)
    · rw [decide_eq_true g, Bool.true_or, if_pos rfl] at ih
      exact Ev.pos g ih
    · refine Ev.neg g ?_
      by_cases g2 : (rdOf ByteArray.empty L (i : Int)).toList = ([119, 104, 97, 116] : List UInt8)
      · rw [decide_eq_true g2, Bool.or_true, if_pos rfl] at ih
        exact Ev.pos g2 ih
      · rw [decide_eq_false g, decide_eq_false g2, Bool.or_false, if_neg (by simp)] at ih
        exact Ev.neg g2 ih
  · have hc := cntB_in L L.length
    refine Ev.succ ?_
    simp only [spec_CountOutputs.l0]
    exact Ev.neg (by omega) (Ev.val (by rw [wrap_id (by omega) (by omega)]))
theorem countImpl (L : List ByteArray) (hl : L.length ≤ 1048576) : Ev (fun k => impl_CountOutputs.l0 k L 0 L (L.length : Int) 0) (cntB L L.length, (L.length : Int) - cntB L L.length, true) := by
  refine Ev.upto L.length (fun _ => True) (fun i => cntB L i) _ (fun k x i => impl_CountOutputs.l0 k L x L (L.length : Int) i) (fun i hi _ ih => ?_) (fun _ => ?_) trivial
  · have hc := cntB_in L i
    have ih := ih trivial
    have ec : cntB L (i + 1) = if hitB (rdOf ByteArray.empty L (i : Int)) = true then cntB L i + 1 else cntB L i := rfl
    rw [ec] at ih
    unfold hitB at ih
    refine Ev.succ ?_
    simp only [impl_CountOutputs.l0]
    rw [wrap_id (x := (i : Int) + 1) (by omega) (by omega), wrap_id (x := cntB L i + 1) (by omega) (by omega)]
    refine Ev.pos (by omega) (Ev.pos (by omega) (Ev.pos (by omega) ?_))
    by_cases g : (rdOf ByteArray.empty L (i : Int)).toList = ([110, 111] : List UInt8)
    · rw [decide_eq_true g, Bool.true_or, if_pos rfl] at ih
      exact Ev.pos g ih
    · refine Ev.neg g ?_
      by_cases g2 : (rdOf ByteArray.empty L (i : Int)).toList = ([119, 104, 97, 116] : List UInt8)
      · rw [decide_eq_true g2, Bool.or_true, if_pos rfl] at ih
        exact Ev.pos g2 ih
      · rw [decide_eq_false g, decide_eq_false g2, Bool.or_false, if_neg (by simp)] at ih
        exact Ev.neg g2 ih
  · have hc := cntB_in L L.length
    refine Ev.succ ?_
    simp only [impl_CountOutputs.l0]
    exact Ev.neg (by omega) (Ev.val (by rw [wrap_id (by omega) (by omega)]))
theorem linesImpl {s : ByteArray} (hs : s.size ≤ 1048576) {L : List ByteArray} {e : Nat} (h : Lines s 0 L e) : impl_linesOf.f s = some (L, decide ((s.size : Int) ≤ 16000) && decide ((s.extract e s.size).toList = ([] : List UInt8))) := by
  have hl := lines_len h
  have hsp := splitLines h
  rw [show s.extract 0 s.size = s from ByteArray.extract_zero_size] at hsp
  unfold impl_linesOf.f strings_Split.f
  have h1 : (⟨#[10]⟩ : ByteArray).size = 1 := rfl
  rw [if_pos (by omega), if_pos (by rw [h1]; exact Nat.le_refl _), Option.bind_some, hsp]
  have e' : ((L ++ [s.extract e s.size]).length : Int) = (L.length : Int) + 1 := by simp
  rw [e', wrap_id (by omega) (by omega), show (L.length : Int) + 1 - 1 = (L.length : Int) from by omega, Int.toNat_natCast, List.take_left]
  rw [if_pos (by omega : (0 : Int) ≤ (L.length : Int)), if_pos (by omega : (L.length : Int) < (L.length : Int) + 1), if_pos (by omega : (L.length : Int) ≤ (L.length : Int) + 1)]
  have hr : rdOf ByteArray.empty (L ++ [s.extract e s.size]) (L.length : Int) = s.extract e s.size := by
    rw [rdB_lt _ _ (by simp)]; simp
  rw [hr]
  by_cases c : (s.size : Int) ≤ 16000
  · rw [if_pos c, decide_eq_true c, Bool.true_and]
    congr 2
    rw [Bool.eq_iff_iff, beq_iff_eq, decide_eq_true_eq]
  · rw [if_neg c, decide_eq_false c, Bool.false_and]
    rw [if_pos (by omega), if_pos (by omega)]
theorem FnExactCountOutputs : laws_FnExactCountOutputs.Pure := by
  intro s _
  refine Ev.rounds ?_
  unfold laws_FnExactCountOutputs.f
  by_cases c : (s.size : Int) > 1048576
  · exact Ev.pos c (Ev.now _)
  · refine Ev.neg c ?_
    have hs : s.size ≤ 1048576 := by omega
    obtain ⟨L, e, hL⟩ := lines_ex s s.size 0 (by omega) (by omega)
    have hl := lines_len hL
    suffices h : ∃ r, Ev (fun k => spec_CountOutputs.f k s) r ∧ Ev (fun k => impl_CountOutputs.f k s) r by
      obtain ⟨r, r1, r2⟩ := h
      exact Ev.bind r1 (Ev.bind r2 (Ev.pos rfl (Ev.pos rfl (Ev.neg (by simp) (Ev.now _)))))
    have hi := linesImpl hs hL
    by_cases c2 : (s.size : Int) > 16000
    · rw [decide_eq_false (by omega), Bool.false_and] at hi
      refine ⟨(0, 0, false), ?_, ?_⟩
      · unfold spec_CountOutputs.f; exact Ev.pos c2 (Ev.now _)
      · unfold impl_CountOutputs.f
        exact Ev.bnd hi (Ev.neg (by simp) (Ev.now _))
    · rw [decide_eq_true (by omega), Bool.true_and] at hi
      by_cases g : (s.extract e s.size).toList = ([] : List UInt8)
      · rw [decide_eq_true g] at hi
        refine ⟨(cntB L L.length, (L.length : Int) - cntB L L.length, true), ?_, ?_⟩
        · unfold spec_CountOutputs.f
          exact Ev.neg c2 (Ev.bind (linesSpec hs hL) (Ev.pos g (countSpec L (by omega))))
        · unfold impl_CountOutputs.f
          exact Ev.bnd hi (Ev.pos rfl (countImpl L (by omega)))
      · rw [decide_eq_false g] at hi
        refine ⟨(0, 0, false), ?_, ?_⟩
        · unfold spec_CountOutputs.f
          exact Ev.neg c2 (Ev.bind (linesSpec hs hL) (Ev.neg g (Ev.now _)))
        · unfold impl_CountOutputs.f
          exact Ev.bnd hi (Ev.neg (by simp) (Ev.now _))

end Go.Proofs.YtjhodohmifemiaaDoor.Pure

/- The law about turned rings: steps on turned, mirrored and opposite rings, wider and joined rules, least turns and rows: what the printed functions compute answers true, for all bytes. -/
import Derived.Test.YtbmffanhebjlgaaPFnTurnedx0
import Derived.Test.YtbmffanhebjlgaaPFnTurnedx1
import Derived.Test.YtbmffanhebjlgaaPFnTurnedx2
import Derived.Test.YtbmffanhebjlgaaPFnTurnedx3
import Derived.Test.YtbmffanhebjlgaaPFnTurnedx4
import Derived.Test.YtbmffanhebjlgaaPFnTurnedx5
import Derived.Test.YtbmffanhebjlgaaVFnTurnedLib
namespace Go.Proofs.Ytbmffanhebjlgaa.Pure
open Go.RowKit Go.Proofs.Ytbmffanhebjlgaa.PFnTurned Go.Proofs.YtbmffanhebjlgaaW.PrintWords Go.Proofs.YtbmffanhebjlgaaW.PrintLast Go.Proofs.Ytbmffanhebjlgaa.L
set_option linter.unusedVariables false
set_option linter.unusedSimpArgs false

/-- The place on a ring, from 0 on. -/
def fm (x : Int) (n : Int) : Int := Int.tmod (wrap64 ((Int.tmod x n) + n)) n
theorem fm_ok (x n : Int) (h0 : 0 < n) (hn : n ≤ 1000000000000) : 0 ≤ fm x n ∧ fm x n < n := by
  unfold fm
  have h1 := Int.tmod_lt_of_pos x h0
  have h2 : -n < Int.tmod x n := by
    have := Int.tmod_lt_of_pos (-x) h0
    rw [Int.neg_tmod] at this
    omega
  rw [wrap_id (x := Int.tmod x n + n) (by omega) (by omega)]
  exact ⟨Int.tmod_nonneg _ (by omega), Int.tmod_lt_of_pos _ h0⟩

/-- The number that cells of a ring from a place on tell. -/
def tl (s : Int) (ring : List Int) (lo : Int) : Nat → Int
  | 0 => 0
  | j + 1 => tl s ring lo j * s + rd ring (fm (lo + (j : Int)) ring.length)
/-- A rule that is valid, as facts. -/
structure RuleOk (s r : Int) (t : List Int) : Prop where
  s0 : 2 ≤ s
  s1 : s ≤ 3
  r0 : 0 ≤ r
  r1 : r ≤ 2
  n : (t.length : Int) = s ^ (2 * r + 1).toNat
  all : ∀ x ∈ t, 0 ≤ x ∧ x ≤ s - 1
theorem RuleOk.of {s r : Int} {t : List Int} (h : validRule s r t = true) : RuleOk s r t := by
  unfold validRule at h
  simp only [Bool.and_eq_true, decide_eq_true_eq] at h
  exact ⟨h.1.1.1.1, h.1.1.1.2, h.1.1.2.1, h.1.1.2.2, h.1.2, allIn_iff.1 h.2⟩
/-- A ring of states. -/
structure RingOk (s : Int) (ring : List Int) : Prop where
  pos : 0 < ring.length
  le : ring.length ≤ 1000000
  all : ∀ x ∈ ring, 0 ≤ x ∧ x ≤ s - 1
theorem tl_ok (s : Int) (ring : List Int) (lo : Int) (hs0 : 2 ≤ s) (hs1 : s ≤ 3) (h : RingOk s ring) (j : Nat) : 0 ≤ tl s ring lo j ∧ tl s ring lo j < s ^ j := by
  induction j with
  | zero => simp [tl]
  | succ j ih =>
    have hf := fm_ok (lo + (j : Int)) ring.length (by have := h.pos; omega) (by have := h.le; omega)
    have hx := h.all _ (rd_mem ring _ hf.1 (by omega))
    show 0 ≤ tl s ring lo j * s + rd ring (fm (lo + (j : Int)) ring.length) ∧ tl s ring lo j * s + rd ring (fm (lo + (j : Int)) ring.length) < s ^ (j + 1)
    rw [Int.pow_succ]
    have h1 : 0 ≤ tl s ring lo j * s := Int.mul_nonneg ih.1 (by omega)
    have h2 : tl s ring lo j * s ≤ (s ^ j - 1) * s := Int.mul_le_mul_of_nonneg_right (by omega) (by omega)
    rw [Int.sub_mul, Int.one_mul] at h2
    omega
/-- What a rule tells at a place of a ring. -/
def told (s r : Int) (t ring : List Int) (i : Int) : Int := rd t (tl s ring (i - r) (2 * r + 1).toNat)
theorem told_ok {s r : Int} {t ring : List Int} (hr : RuleOk s r t) (h : RingOk s ring) (i : Int) : 0 ≤ told s r t ring i ∧ told s r t ring i ≤ s - 1 := by
  have := tl_ok s ring (i - r) hr.s0 hr.s1 h (2 * r + 1).toNat
  exact hr.all _ (rd_mem t _ this.1 (by rw [hr.n]; exact this.2))
/-- A step of a ring. -/
def ringStep (s r : Int) (t ring : List Int) : List Int := (List.range ring.length).map fun (i : Nat) => told s r t ring (i : Int)
theorem ringStep_length (s r : Int) (t ring : List Int) : (ringStep s r t ring).length = ring.length := by simp [ringStep]
theorem ringStep_ok {s r : Int} {t ring : List Int} (hr : RuleOk s r t) (h : RingOk s ring) : RingOk s (ringStep s r t ring) := by
  refine ⟨by rw [ringStep_length]; exact h.pos, by rw [ringStep_length]; exact h.le, fun x hx => ?_⟩
  simp only [ringStep, List.mem_map] at hx
  obtain ⟨i, _, rfl⟩ := hx
  exact told_ok hr h _
theorem ringStep_take (s r : Int) (t ring : List Int) (i : Nat) (h : i < ring.length) : (ringStep s r t ring).take (i + 1) = (ringStep s r t ring).take i ++ [told s r t ring (i : Int)] := by
  rw [List.take_succ_eq_append_getElem (by rw [ringStep_length]; exact h)]
  simp [ringStep]
/-- Steps of a ring. -/
def ringSteps (s r : Int) (t ring : List Int) : Nat → List Int
  | 0 => ring
  | n + 1 => ringStep s r t (ringSteps s r t ring n)
theorem ringSteps_ok {s r : Int} {t ring : List Int} (hr : RuleOk s r t) (h : RingOk s ring) (n : Nat) : RingOk s (ringSteps s r t ring n) := by
  induction n with
  | zero => exact h
  | succ n ih => exact ringStep_ok hr ih
theorem ringSteps_length (s r : Int) (t ring : List Int) (n : Nat) : (ringSteps s r t ring n).length = ring.length := by
  induction n with
  | zero => rfl
  | succ n ih => show (ringStep _ _ _ _).length = _; rw [ringStep_length, ih]

theorem fm_emod (x n : Int) (h0 : 0 < n) (hn : n ≤ 1000000000000) : fm x n = x % n := by
  unfold fm
  have h1 := Int.tmod_lt_of_pos x h0
  have h2 : -n < Int.tmod x n := by
    have := Int.tmod_lt_of_pos (-x) h0
    rw [Int.neg_tmod] at this
    omega
  rw [wrap_id (x := Int.tmod x n + n) (by omega) (by omega), Int.tmod_eq_emod_of_nonneg (by omega), Int.add_emod_right, Int.tmod_def]
  exact Int.sub_mul_emod_self_left x n _

/-- The number with digits, the greatest one first. -/
def numOf (s : Int) (ds : List Int) : Int := ds.foldl (fun n d => n * s + d) 0
theorem numOf_snoc (s : Int) (ds : List Int) (d : Int) : numOf s (ds ++ [d]) = numOf s ds * s + d := by simp [numOf, List.foldl_append]
/-- States alone. -/
def Sts (s : Int) (ds : List Int) : Prop := ∀ d ∈ ds, 0 ≤ d ∧ d ≤ s - 1
theorem snoc_of (c : Nat) (ds : List Int) (h : ds.length = c + 1) : ∃ L d, ds = L ++ [d] ∧ L.length = c := by
  rcases List.eq_nil_or_concat ds with rfl | ⟨L, d, rfl⟩
  · simp at h
  · exact ⟨L, d, by simp, by simpa using h⟩
theorem numOf_ok (s : Int) (hs0 : 2 ≤ s) (hs1 : s ≤ 3) : ∀ (c : Nat) (ds : List Int), ds.length = c → Sts s ds → 0 ≤ numOf s ds ∧ numOf s ds < s ^ c := by
  intro c
  induction c with
  | zero => intro ds h _; obtain rfl := List.length_eq_zero_iff.1 h; simp [numOf]
  | succ c ih =>
    intro ds h hs
    obtain ⟨L, d, rfl, hL⟩ := snoc_of c ds h
    have h1 := ih L hL (fun x hx => hs x (List.mem_append_left _ hx))
    have h2 := hs d (by simp)
    rw [numOf_snoc, Int.pow_succ]
    obtain rfl | rfl : s = 2 ∨ s = 3 := by omega
    · omega
    · omega
/-- The digits of a number, so many of them. -/
def digs (s : Int) : Nat → Int → List Int
  | 0, _ => []
  | c + 1, n => digs s c (n / s) ++ [n % s]
theorem digs_length (s : Int) : ∀ (c : Nat) (n : Int), (digs s c n).length = c := by
  intro c; induction c with
  | zero => intro n; rfl
  | succ c ih => intro n; simp [digs, ih]
theorem digs_ok (s : Int) (hs0 : 2 ≤ s) (hs1 : s ≤ 3) : ∀ (c : Nat) (n : Int), Sts s (digs s c n) := by
  intro c; induction c with
  | zero => intro n x hx; simp [digs] at hx
  | succ c ih =>
    intro n x hx
    simp only [digs, List.mem_append, List.mem_singleton] at hx
    rcases hx with hx | rfl
    · exact ih _ x hx
    · have := Int.emod_nonneg n (b := s) (by omega); have := Int.emod_lt_of_pos n (b := s) (by omega); omega
theorem digs_num (s : Int) (hs0 : 2 ≤ s) (hs1 : s ≤ 3) : ∀ (c : Nat) (ds : List Int), ds.length = c → Sts s ds → digs s c (numOf s ds) = ds := by
  intro c; induction c with
  | zero => intro ds h _; obtain rfl := List.length_eq_zero_iff.1 h; rfl
  | succ c ih =>
    intro ds h hs
    obtain ⟨L, d, rfl, hL⟩ := snoc_of c ds h
    have h2 := hs d (by simp)
    have e1 : (numOf s L * s + d) / s = numOf s L := by obtain rfl | rfl : s = 2 ∨ s = 3 := by omega
                                                        · omega
                                                        · omega
    have e2 : (numOf s L * s + d) % s = d := by obtain rfl | rfl : s = 2 ∨ s = 3 := by omega
                                                · omega
                                                · omega
    rw [numOf_snoc]
    show digs s c _ ++ [_] = _
    rw [e1, e2, ih L hL (fun x hx => hs x (List.mem_append_left _ hx))]
theorem num_digs (s : Int) (hs0 : 2 ≤ s) (hs1 : s ≤ 3) : ∀ (c : Nat) (n : Int), 0 ≤ n → n < s ^ c → numOf s (digs s c n) = n := by
  intro c; induction c with
  | zero => intro n h0 h1; simp at h1; simp [digs, numOf]; omega
  | succ c ih =>
    intro n h0 h1
    rw [Int.pow_succ] at h1
    show numOf s (digs s c (n / s) ++ [n % s]) = n
    rw [numOf_snoc]
    obtain rfl | rfl : s = 2 ∨ s = 3 := by omega
    · rw [ih (n / 2) (by omega) (by omega)]; omega
    · rw [ih (n / 3) (by omega) (by omega)]; omega
/-- A ring's cell, round and round. -/
def at_ (ring : List Int) (x : Int) : Int := rd ring (x % (ring.length : Int))
/-- So many cells of a ring, from a place on. -/
def win (ring : List Int) (lo : Int) (j : Nat) : List Int := (List.range j).map fun (i : Nat) => at_ ring (lo + (i : Int))
theorem win_length (ring : List Int) (lo : Int) (j : Nat) : (win ring lo j).length = j := by simp [win]
theorem win_get (ring : List Int) (lo : Int) (j i : Nat) (h : i < j) : (win ring lo j)[i]'(by rw [win_length]; exact h) = at_ ring (lo + (i : Int)) := by simp [win]
theorem at_mem {ring : List Int} (h : 0 < ring.length) (x : Int) : at_ ring x ∈ ring := by
  unfold at_
  exact rd_mem ring _ (Int.emod_nonneg _ (by omega)) (Int.emod_lt_of_pos _ (by omega))
theorem win_ok {s : Int} {ring : List Int} (h : RingOk s ring) (lo : Int) (j : Nat) : Sts s (win ring lo j) := by
  intro d hd
  simp only [win, List.mem_map] at hd
  obtain ⟨i, _, rfl⟩ := hd
  exact h.all _ (at_mem h.pos _)
theorem win_succ (ring : List Int) (lo : Int) (j : Nat) : win ring lo (j + 1) = win ring lo j ++ [at_ ring (lo + (j : Int))] := by simp [win, List.range_succ]
theorem tl_num {s : Int} {ring : List Int} (h : RingOk s ring) (lo : Int) (j : Nat) : tl s ring lo j = numOf s (win ring lo j) := by
  induction j with
  | zero => rfl
  | succ j ih =>
    rw [win_succ, numOf_snoc, ← ih]
    show tl s ring lo j * s + rd ring (fm _ _) = _
    rw [fm_emod _ _ (by have := h.pos; omega) (by have := h.le; omega)]
    rfl
theorem told_num {s r : Int} {t ring : List Int} (h : RingOk s ring) (i : Int) : told s r t ring i = rd t (numOf s (win ring (i - r) (2 * r + 1).toNat)) := by
  unfold told; rw [tl_num h]
/-- The table of what is told of each neighbourhood. -/
def madeT (s : Int) (c : Nat) (tell : List Int → Int) : List Int := (List.range (s ^ c).toNat).map fun (i : Nat) => tell (digs s c (i : Int))
theorem madeT_length (s : Int) (c : Nat) (tell : List Int → Int) : (madeT s c tell).length = (s ^ c).toNat := by simp [madeT]
theorem madeT_rd {s : Int} (hs0 : 2 ≤ s) (hs1 : s ≤ 3) {c : Nat} {ds : List Int} (tell : List Int → Int) (hl : ds.length = c) (h : Sts s ds) : rd (madeT s c tell) (numOf s ds) = tell ds := by
  have hn := numOf_ok s hs0 hs1 c ds hl h
  obtain ⟨m, hm⟩ := Int.eq_ofNat_of_zero_le hn.1
  have hm' : m < (s ^ c).toNat := by omega
  rw [hm]
  rw [rd_lt _ m (by rw [madeT_length]; exact hm')]
  simp only [madeT, List.getElem_map, List.getElem_range]
  rw [← hm, digs_num s hs0 hs1 c ds hl h]
/-- What a rule of a reach needs to tell. -/
def Tells (s : Int) (c : Nat) (tell : List Int → Int) : Prop := ∀ ds, ds.length = c → Sts s ds → 0 ≤ tell ds ∧ tell ds ≤ s - 1
theorem madeT_ok {s h : Int} (hs0 : 2 ≤ s) (hs1 : s ≤ 3) (h0 : 0 ≤ h) (h1 : h ≤ 2) {tell : List Int → Int} (ht : Tells s (2 * h + 1).toNat tell) : RuleOk s h (madeT s (2 * h + 1).toNat tell) := by
  refine ⟨hs0, hs1, h0, h1, ?_, fun x hx => ?_⟩
  · rw [madeT_length]; have := (pow_bound s (2 * h + 1).toNat (by omega) (by omega) (by omega)).1; omega
  · simp only [madeT, List.mem_map] at hx
    obtain ⟨i, _, rfl⟩ := hx
    exact ht _ (digs_length _ _ _) (digs_ok s hs0 hs1 _ _)
theorem madeT_step {s h : Int} (hs0 : 2 ≤ s) (hs1 : s ≤ 3) (tell : List Int → Int) {ring : List Int} (hr : RingOk s ring) :
    ringStep s h (madeT s (2 * h + 1).toNat tell) ring = (List.range ring.length).map fun (i : Nat) => tell (win ring ((i : Int) - h) (2 * h + 1).toNat) := by
  unfold ringStep
  refine List.map_congr_left fun i _ => ?_
  rw [told_num hr, madeT_rd hs0 hs1 tell (win_length _ _ _) (win_ok hr _ _)]
theorem ringStep_get {s r : Int} {t ring : List Int} (h : RingOk s ring) (i : Nat) (hi : i < ring.length) : (ringStep s r t ring)[i]'(by rw [ringStep_length]; exact hi) = rd t (numOf s (win ring ((i : Int) - r) (2 * r + 1).toNat)) := by
  simp only [ringStep, List.getElem_map, List.getElem_range]
  exact told_num h _
/-- What a valid rule tells of states. -/
theorem tells_ok {s r : Int} {t : List Int} (hr : RuleOk s r t) : Tells s (2 * r + 1).toNat (fun ds => rd t (numOf s ds)) := by
  intro ds hl h
  have hn := numOf_ok s hr.s0 hr.s1 _ ds hl h
  exact hr.all _ (rd_mem t _ hn.1 (by rw [hr.n]; exact hn.2))
/-- Of a mirrored ring. -/
theorem at_rev (ring : List Int) (h : 0 < ring.length) (x : Int) : at_ ring.reverse x = at_ ring ((ring.length : Int) - 1 - x) := by
  unfold at_
  rw [List.length_reverse]
  have h0 := Int.emod_nonneg x (b := (ring.length : Int)) (by omega)
  have h1 := Int.emod_lt_of_pos x (b := (ring.length : Int)) (by omega)
  have e : ((ring.length : Int) - 1 - x) % (ring.length : Int) = (ring.length : Int) - 1 - x % (ring.length : Int) := by
    rw [show (ring.length : Int) - 1 - x = ((ring.length : Int) - 1 - x % (ring.length : Int)) + (ring.length : Int) * (-(x / (ring.length : Int))) by
      have := Int.mul_ediv_add_emod x (ring.length : Int)
      rw [Int.mul_neg]; omega, Int.add_mul_emod_self_left, Int.emod_eq_of_lt (by omega) (by omega)]
  rw [e]
  obtain ⟨m, hm⟩ := Int.eq_ofNat_of_zero_le h0
  rw [hm, rd_lt _ m (by rw [List.length_reverse]; omega), show (ring.length : Int) - 1 - (m : Int) = ((ring.length - 1 - m : Nat) : Int) by omega, rd_lt _ _ (by omega)]
  simp
theorem win_rev (ring : List Int) (h : 0 < ring.length) (lo : Int) (j : Nat) : (win ring.reverse lo j).reverse = win ring ((ring.length : Int) - lo - (j : Int)) j := by
  refine List.ext_getElem (by simp [win_length]) fun i h1 h2 => ?_
  rw [win_length] at h2
  rw [List.getElem_reverse, win_get _ _ _ _ h2]
  simp only [win_length]
  rw [win_get _ _ _ _ (by omega), at_rev ring h]
  congr 1; omega
theorem mirror_step {s r : Int} {t ring : List Int} (hr : RuleOk s r t) (h : RingOk s ring) :
    ringStep s r (madeT s (2 * r + 1).toNat fun ds => rd t (numOf s ds.reverse)) ring.reverse = (ringStep s r t ring).reverse := by
  have h' : RingOk s ring.reverse := ⟨by simpa using h.pos, by simpa using h.le, fun x hx => h.all x (by simpa using hx)⟩
  rw [madeT_step hr.s0 hr.s1 _ h']
  have hr0 := hr.r0
  refine List.ext_getElem (by simp [ringStep_length]) fun i h1 h2 => ?_
  simp only [List.getElem_map, List.getElem_range, List.getElem_reverse, ringStep_length]
  simp only [List.length_map, List.length_range, List.length_reverse] at h1
  rw [ringStep_get h _ (by omega), win_rev ring h.pos]
  congr 3; omega
/-- Opposite states. -/
def oppL (s : Int) (l : List Int) : List Int := l.map fun x => s - 1 - x
theorem at_opp (s : Int) (ring : List Int) (h : 0 < ring.length) (x : Int) : at_ (oppL s ring) x = s - 1 - at_ ring x := by
  unfold at_
  have h0 := Int.emod_nonneg x (b := (ring.length : Int)) (by omega)
  have h1 := Int.emod_lt_of_pos x (b := (ring.length : Int)) (by omega)
  rw [show (oppL s ring).length = ring.length by simp [oppL]]
  obtain ⟨m, hm⟩ := Int.eq_ofNat_of_zero_le h0
  rw [hm, rd_lt _ m (by simp [oppL]; omega), rd_lt _ m (by omega)]
  simp [oppL]
theorem win_opp (s : Int) (ring : List Int) (h : 0 < ring.length) (lo : Int) (j : Nat) : win (oppL s ring) lo j = oppL s (win ring lo j) := by
  simp only [win, oppL, List.map_map]
  refine List.map_congr_left fun i _ => ?_
  have := at_opp s ring h (lo + (i : Int))
  simpa [oppL] using this
theorem oppL_oppL (s : Int) (l : List Int) : oppL s (oppL s l) = l := by
  simp only [oppL, List.map_map]
  refine (List.map_congr_left (g := id) fun x _ => ?_).trans (List.map_id _)
  show s - 1 - (s - 1 - x) = x
  omega
theorem oppL_ok {s : Int} {l : List Int} (h : Sts s l) : Sts s (oppL s l) := by
  intro d hd
  simp only [oppL, List.mem_map] at hd
  obtain ⟨x, hx, rfl⟩ := hd
  have := h x hx; omega
theorem oppL_ring {s : Int} {l : List Int} (h : RingOk s l) : RingOk s (oppL s l) := ⟨by simpa [oppL] using h.pos, by simpa [oppL] using h.le, oppL_ok h.all⟩
theorem opposite_step {s r : Int} {t ring : List Int} (hr : RuleOk s r t) (h : RingOk s ring) :
    ringStep s r (madeT s (2 * r + 1).toNat fun ds => s - 1 - rd t (numOf s (oppL s ds))) (oppL s ring) = oppL s (ringStep s r t ring) := by
  rw [madeT_step hr.s0 hr.s1 _ (oppL_ring h)]
  refine List.ext_getElem (by simp [ringStep_length, oppL]) fun i h1 h2 => ?_
  simp only [List.length_map, List.length_range, oppL] at h1
  simp only [List.getElem_map, List.getElem_range, oppL]
  rw [ringStep_get h _ h1]
  have e := win_opp s ring h.pos ((i : Int) - r) (2 * r + 1).toNat
  have e2 := oppL_oppL s (win ring ((i : Int) - r) (2 * r + 1).toNat)
  simp only [oppL] at e e2
  rw [e, e2]
/-- A part of a window. -/
theorem win_part (ring : List Int) (lo : Int) (j a b : Nat) (h : a + b ≤ j) : ((win ring lo j).take (a + b)).drop a = win ring (lo + (a : Int)) b := by
  refine List.ext_getElem (by simp [win_length]; omega) fun i h1 h2 => ?_
  rw [win_length] at h2
  rw [List.getElem_drop, List.getElem_take, win_get _ _ _ _ (by omega), win_get _ _ _ _ h2]
  congr 1; push_cast; omega
theorem wider_step {s r : Int} {t ring : List Int} (hr : RuleOk s r t) (h : RingOk s ring) :
    ringStep s (r + 1) (madeT s (2 * (r + 1) + 1).toNat fun ds => rd t (numOf s ((ds.take (ds.length - 1)).drop 1))) ring = ringStep s r t ring := by
  rw [madeT_step hr.s0 hr.s1 _ h]
  have hr0 := hr.r0
  refine List.ext_getElem (by simp [ringStep_length]) fun i h1 h2 => ?_
  simp only [List.length_map, List.length_range] at h1
  simp only [List.getElem_map, List.getElem_range, win_length]
  rw [ringStep_get h _ h1]
  have e := win_part ring ((i : Int) - (r + 1)) (2 * (r + 1) + 1).toNat 1 (2 * r + 1).toNat (by omega)
  rw [show 1 + (2 * r + 1).toNat = (2 * (r + 1) + 1).toNat - 1 by omega] at e
  rw [e]
  congr 3; omega
/-- The next states of the cells of a row that have all of their neighbourhood in it. -/
def shorterL (s r : Int) (t row : List Int) : List Int := (List.range (row.length - (2 * r).toNat)).map fun (i : Nat) => rd t (numOf s ((row.take (i + (2 * r + 1).toNat)).drop i))
theorem at_step {s r : Int} {t ring : List Int} (h : RingOk s ring) (x : Int) : at_ (ringStep s r t ring) x = rd t (numOf s (win ring (x - r) (2 * r + 1).toNat)) := by
  unfold at_
  rw [ringStep_length]
  have hp := h.pos
  have h0 := Int.emod_nonneg x (b := (ring.length : Int)) (by omega)
  have h1 := Int.emod_lt_of_pos x (b := (ring.length : Int)) (by omega)
  obtain ⟨m, hm⟩ := Int.eq_ofNat_of_zero_le h0
  rw [hm, rd_lt _ m (by rw [ringStep_length]; omega), ringStep_get h m (by omega), ← hm]
  congr 2
  simp only [win]
  refine List.map_congr_left fun i _ => ?_
  unfold at_
  congr 1
  rw [show x % (ring.length : Int) - r + (i : Int) = (x - r + (i : Int)) + (ring.length : Int) * (-(x / (ring.length : Int))) by
    have := Int.mul_ediv_add_emod x (ring.length : Int)
    rw [Int.mul_neg]; omega, Int.add_mul_emod_self_left]
theorem shorter_win {s r : Int} {t ring : List Int} (hr : RuleOk s r t) (h : RingOk s ring) (lo : Int) (b : Nat) :
    shorterL s r t (win ring lo (b + (2 * r).toNat)) = win (ringStep s r t ring) (lo + r) b := by
  have hr0 := hr.r0
  refine List.ext_getElem (by simp [shorterL, win_length]) fun i h1 h2 => ?_
  rw [win_length] at h2
  rw [win_get _ _ _ _ h2, at_step h]
  simp only [shorterL, List.getElem_map, List.getElem_range]
  rw [win_part ring lo _ i (2 * r + 1).toNat (by omega)]
  congr 3; omega
theorem join_step {s r q : Int} {t u ring : List Int} (hr : RuleOk s r t) (hq : RuleOk s q u) (h : RingOk s ring) :
    ringStep s (r + q) (madeT s (2 * (r + q) + 1).toNat fun ds => rd u (numOf s (shorterL s r t ds))) ring = ringStep s q u (ringStep s r t ring) := by
  rw [madeT_step hr.s0 hr.s1 _ h]
  have hr0 := hr.r0; have hq0 := hq.r0
  have h' := ringStep_ok hr h
  refine List.ext_getElem (by simp [ringStep_length]) fun i h1 h2 => ?_
  simp only [List.length_map, List.length_range] at h1
  simp only [List.getElem_map, List.getElem_range]
  rw [ringStep_get h' _ (by rw [ringStep_length]; exact h1), show (2 * (r + q) + 1).toNat = (2 * q + 1).toNat + (2 * r).toNat by omega, shorter_win hr h]
  congr 3; omega
theorem shorter_ok {s r : Int} {t : List Int} (hr : RuleOk s r t) (c : Nat) (ds : List Int) (hl : ds.length = c + (2 * r).toNat) (h : Sts s ds) : (shorterL s r t ds).length = c ∧ Sts s (shorterL s r t ds) := by
  have hr0 := hr.r0
  refine ⟨by simp [shorterL, hl], fun d hd => ?_⟩
  simp only [shorterL, List.mem_map, List.mem_range] at hd
  obtain ⟨i, hi, rfl⟩ := hd
  refine tells_ok hr _ ?_ fun x hx => h x (List.mem_of_mem_take (List.mem_of_mem_drop hx))
  rw [List.length_drop, List.length_take]; omega
/-- A ring turned around. -/
def turnL (ring : List Int) (by_ : Int) : List Int := ring.drop (by_ % (ring.length : Int)).toNat ++ ring.take (by_ % (ring.length : Int)).toNat
theorem turnL_length (ring : List Int) (by_ : Int) : (turnL ring by_).length = ring.length := by
  simp only [turnL, List.length_append, List.length_drop, List.length_take]; omega
theorem turnL_ok {s : Int} {ring : List Int} (h : RingOk s ring) (by_ : Int) : RingOk s (turnL ring by_) := by
  refine ⟨by rw [turnL_length]; exact h.pos, by rw [turnL_length]; exact h.le, fun x hx => h.all x ?_⟩
  simp only [turnL, List.mem_append] at hx
  rcases hx with hx | hx
  · exact List.mem_of_mem_drop hx
  · exact List.mem_of_mem_take hx
theorem turnL_get (ring : List Int) (h : 0 < ring.length) (by_ : Int) (i : Nat) (hi : i < ring.length) : (turnL ring by_)[i]'(by rw [turnL_length]; exact hi) = at_ ring ((i : Int) + by_) := by
  have h0 := Int.emod_nonneg by_ (b := (ring.length : Int)) (by omega)
  have h1 := Int.emod_lt_of_pos by_ (b := (ring.length : Int)) (by omega)
  have e : ((i : Int) + by_) % (ring.length : Int) = ((i : Int) + by_ % (ring.length : Int)) % (ring.length : Int) := by rw [Int.add_emod_emod]
  unfold at_
  rw [e]
  obtain ⟨m, hm⟩ := Int.eq_ofNat_of_zero_le h0
  simp only [turnL, hm, Int.toNat_natCast]
  by_cases c : i + m < ring.length
  · rw [List.getElem_append_left (by simp; omega), List.getElem_drop, Int.emod_eq_of_lt (by omega) (by omega), show (i : Int) + (m : Int) = ((i + m : Nat) : Int) by omega, rd_lt _ _ c]
    congr 1; omega
  · rw [List.getElem_append_right (by simp; omega), List.getElem_take]
    have e2 : ((i : Int) + (m : Int)) % (ring.length : Int) = ((i + m - ring.length : Nat) : Int) := by
      rw [← Int.sub_emod_right, Int.emod_eq_of_lt (by omega) (by omega)]; omega
    rw [e2, rd_lt _ _ (by omega)]
    congr 1; simp; omega
theorem at_turn (ring : List Int) (h : 0 < ring.length) (by_ x : Int) : at_ (turnL ring by_) x = at_ ring (x + by_) := by
  have h0 := Int.emod_nonneg x (b := (ring.length : Int)) (by omega)
  have h1 := Int.emod_lt_of_pos x (b := (ring.length : Int)) (by omega)
  obtain ⟨m, hm⟩ := Int.eq_ofNat_of_zero_le h0
  have e : at_ (turnL ring by_) x = rd (turnL ring by_) (m : Int) := by unfold at_; rw [turnL_length, hm]
  rw [e, rd_lt _ m (by rw [turnL_length]; omega), turnL_get ring h by_ m (by omega), ← hm]
  unfold at_
  rw [Int.emod_add_emod]
theorem win_turn (ring : List Int) (h : 0 < ring.length) (by_ lo : Int) (j : Nat) : win (turnL ring by_) lo j = win ring (lo + by_) j := by
  simp only [win]
  refine List.map_congr_left fun i _ => ?_
  rw [at_turn ring h]
  congr 1; omega
theorem turn_step {s r : Int} {t ring : List Int} (h : RingOk s ring) (by_ : Int) : ringStep s r t (turnL ring by_) = turnL (ringStep s r t ring) by_ := by
  refine List.ext_getElem (by rw [ringStep_length, turnL_length, turnL_length, ringStep_length]) fun i h1 h2 => ?_
  rw [ringStep_length, turnL_length] at h1
  rw [ringStep_get (turnL_ok h by_) i (by rw [turnL_length]; exact h1), turnL_get _ (by rw [ringStep_length]; exact h.pos) _ _ (by rw [ringStep_length]; exact h1), at_step h, win_turn ring h.pos]
  congr 3; omega

theorem floorMod (a b : Int) (h : b ≠ 0) : impl_floorMod.f a b = some (fm a b) := by unfold impl_floorMod.f; rw [if_neg h]; rfl

theorem ruleAt {s r : Int} {t ring : List Int} (hr : RuleOk s r t) (h : RingOk s ring) (i : Int) (hi0 : 0 ≤ i) (hi1 : i ≤ 1000000) : Ev (fun k => impl_Rule_at.f k s r t ring i) (told s r t ring i) := by
  unfold impl_Rule_at.f
  have := hr.r0; have := hr.r1; have := hr.s0; have := hr.s1; have hn := h.pos; have hn1 := h.le
  rw [wrap_id (x := i - r) (by omega) (by omega)]
  refine Ev.congr (fun k => ?_) (Ev.upto (2 * r + 1).toNat (fun _ => True) (fun j => tl s ring (i - r) j) (told s r t ring i) (fun k x j => impl_Rule_at.l0 k ring i ring.length x (i - r + j) s r t) (fun j hj _ ih => ?_) (fun _ => ?_) trivial)
  · rw [Int.add_zero]; rfl
  · refine Ev.succ ?_
    simp only [impl_Rule_at.l0]
    have hf := fm_ok (i - r + (j : Int)) ring.length (by omega) (by omega)
    have hx := h.all _ (rd_mem ring _ hf.1 (by omega))
    have ht := tl_ok s ring (i - r) hr.s0 hr.s1 h j
    have ht1 := tl_ok s ring (i - r) hr.s0 hr.s1 h (j + 1)
    have hb := pow_bound s (j + 1) (by omega) (by omega) (by omega)
    have hm : 0 ≤ tl s ring (i - r) j * s := Int.mul_nonneg ht.1 (by omega)
    have e : tl s ring (i - r) (j + 1) = tl s ring (i - r) j * s + rd ring (fm (i - r + (j : Int)) ring.length) := rfl
    rw [wrap_id (x := i + r) (by omega) (by omega), wrap_id (x := i - r + (j : Int) + 1) (by omega) (by omega)]
    refine Ev.pos (by omega) (Ev.bnd (floorMod _ _ (by omega)) (Ev.pos hf.1 (Ev.pos hf.2 ?_)))
    have hw : wrap64 (wrap64 (tl s ring (i - r) j * s) + rd ring (fm (i - r + (j : Int)) ring.length)) = tl s ring (i - r) (j + 1) := by
      rw [wrap_id (x := tl s ring (i - r) j * s) (by omega) (by omega)]
      exact wrap_id (by omega) (by omega)
    rw [hw]
    have := ih trivial
    rw [show i - r + ((j : Int) + 1) = i - r + (j : Int) + 1 by omega] at this
    exact this
  · refine Ev.succ ?_
    simp only [impl_Rule_at.l0]
    have ht := tl_ok s ring (i - r) hr.s0 hr.s1 h (2 * r + 1).toNat
    rw [← hr.n] at ht
    rw [wrap_id (x := i + r) (by omega) (by omega)]
    exact Ev.neg (by omega) (Ev.pos ht.1 (Ev.pos ht.2 (Ev.now _)))
theorem stepImpl {s r : Int} {t ring : List Int} (hr : RuleOk s r t) (h : RingOk s ring) : Ev (fun k => impl_Rule_step.f k s r t ring) (ringStep s r t ring) := by
  unfold impl_Rule_step.f
  have hn1 := h.le
  refine Ev.pos (by omega) (Ev.pos (by omega) (Ev.bnd rfl ?_))
  refine Ev.congr (fun k => ?_) (Ev.upto ring.length (fun _ => True) (fun i => (ringStep s r t ring).take i ++ List.replicate (ring.length - i) 0) (ringStep s r t ring) (fun k x i => impl_Rule_step.l0 k ring x ring.length i s r t) (fun i hi _ ih => ?_) (fun _ => ?_) trivial)
  · simp
  · refine Ev.succ ?_
    simp only [impl_Rule_step.l0]
    have hlen : ((ringStep s r t ring).take i ++ List.replicate (ring.length - i) 0).length = ring.length := by rw [List.length_append, List.length_take, ringStep_length, List.length_replicate]; omega
    refine Ev.pos (by omega) (Ev.bind (ruleAt hr h (i : Int) (by omega) (by omega)) (Ev.pos (by omega) (Ev.pos (by rw [hlen]; omega) ?_)))
    have hx : told s r t ring (i : Int) = (ringStep s r t ring)[i]'(by rw [ringStep_length]; exact hi) := by simp [ringStep]
    have hs := take_set_rep' (ringStep s r t ring) i ring.length (by rw [ringStep_length]; exact hi) (ringStep_length s r t ring)
    rw [wrap_id (x := (i : Int) + 1) (by omega) (by omega), Int.toNat_natCast, hx, hs]
    exact ih trivial
  · refine Ev.succ ?_
    simp only [impl_Rule_step.l0]
    exact Ev.neg (by omega) (Ev.val (by rw [Nat.sub_self, List.replicate_zero, List.append_nil, List.take_of_length_le (by rw [ringStep_length]; omega)]))

theorem raised (x n : Int) (h0 : 0 ≤ x) (h1 : x ≤ 10) (hn0 : 0 ≤ n) (hn : n ≤ 12) : Ev (fun k => impl_raised.f k x n) (x ^ n.toNat) := by
  unfold impl_raised.f
  obtain ⟨m, rfl⟩ := Int.eq_ofNat_of_zero_le hn0
  rw [Int.toNat_natCast]
  refine Ev.congr (fun k => ?_) (Ev.upto m (fun _ => True) (fun i => x ^ i) (x ^ m) (fun k s i => impl_raised.l0 k x s m i) (fun i hi _ ih => ?_) (fun _ => ?_) trivial)
  · rw [Int.pow_zero]
  · refine Ev.succ ?_
    simp only [impl_raised.l0]
    have hb := pow_bound x (i + 1) h0 h1 (by omega)
    rw [Int.pow_succ] at hb
    refine Ev.pos (by omega) ?_
    rw [wrap_id (x := (i : Int) + 1) (by omega) (by omega), wrap_id (x := x ^ i * x) (by omega) (by omega), ← Int.pow_succ]
    exact ih trivial
  · refine Ev.succ ?_
    simp only [impl_raised.l0]
    exact Ev.neg (by omega) (Ev.now _)

theorem within (a b c : Int) : impl_within.f a b c = some (decide (b ≤ a ∧ a ≤ c)) := by
  unfold impl_within.f
  by_cases h : a ≥ b
  · rw [if_pos h]; simp; omega
  · rw [if_neg h]; simp; omega

theorem areWithin (l : List Int) (a b : Int) (hl : l.length ≤ 35184372088832) : Ev (fun k => impl_areWithin.f k l a b) (allIn l a b) := by
  unfold impl_areWithin.f
  refine Ev.upto l.length (fun i => ∀ j, (hj : j < l.length) → j < i → a ≤ l[j] ∧ l[j] ≤ b) (fun _ => ()) _ (fun k _ i => impl_areWithin.l0 k a b l l.length i) (fun i hi hp ih => ?_) (fun hp => ?_) (fun j hj h => by omega)
  · refine Ev.succ ?_
    simp only [impl_areWithin.l0]
    refine Ev.pos (by omega) (Ev.pos (by omega) (Ev.pos (by omega) ?_))
    rw [rd_lt l i (by omega), wrap_id (by omega) (by omega), within]
    by_cases c : a ≤ l[i] ∧ l[i] ≤ b
    · exact Ev.bnd rfl (Ev.pos (by simpa using c) (ih (upTo_succ (p := fun x => a ≤ x ∧ x ≤ b) hi hp c)))
    · exact Ev.bnd rfl (Ev.neg (by simpa using c) (Ev.val (by rw [allIn_false i (by omega) c])))
  · refine Ev.succ ?_
    simp only [impl_areWithin.l0]
    exact Ev.neg (by omega) (Ev.val (by rw [allIn_true (fun j hj' => hp j hj' (by omega))]))

theorem areMany (l : List Int) (a b c d : Int) (hl : l.length ≤ 35184372088832) : Ev (fun k => impl_areMany.f k l a b c d) (decide (a ≤ l.length ∧ l.length ≤ b) && allIn l c d) := by
  unfold impl_areMany.f
  refine Ev.bnd (within _ _ _) ?_
  by_cases h : a ≤ l.length ∧ l.length ≤ b
  · refine Ev.pos (by simpa using h) (Ev.cast (Ev.bind (areWithin l c d hl) (Ev.now _)) (by simp [h]))
  · exact Ev.neg (by simpa using h) (Ev.val (by simp [h]))

theorem areStates (s : Int) : impl_areStates.f s = some (decide (s = 2 ∨ s = 3)) := by
  unfold impl_areStates.f
  by_cases h : s = 2
  · rw [if_pos h]; simp [h]
  · rw [if_neg h]
    by_cases h3 : s = 3
    · subst h3; rfl
    · simp [h, h3]

theorem isReach (r : Int) : impl_isReach.f r = some (decide (0 ≤ r ∧ r ≤ 2)) := by
  unfold impl_isReach.f
  rw [within]; rfl
theorem ruleCells (s r : Int) (t : List Int) (h0 : 0 ≤ r) (h1 : r ≤ 2) : impl_Rule_cells.f s r t = some (2 * r + 1) := by
  unfold impl_Rule_cells.f
  rw [wrap_id (x := 2 * r) (by omega) (by omega), wrap_id (x := 2 * r + 1) (by omega) (by omega)]

theorem ValidRule (s r : Int) (t : List Int) (hl : t.length ≤ 35184372088832) : Ev (fun k => impl_ValidRule.f k s r t) (validRule s r t) := by
  unfold impl_ValidRule.f validRule
  refine Ev.bnd (areStates s) ?_
  by_cases hs : 2 ≤ s ∧ s ≤ 3
  · refine Ev.pos (by simp; omega) (Ev.bnd (isReach r) (Ev.succ ?_))
    simp only [impl_ValidRule.j0]
    by_cases hr : 0 ≤ r ∧ r ≤ 2
    · refine Ev.neg (by simpa using hr) (Ev.bnd (ruleCells s r t hr.1 hr.2) (Ev.bind (raised s (2 * r + 1) (by omega) (by omega) (by omega) (by omega)) ?_))
      rw [wrap_id (x := s - 1) (by omega) (by omega)]
      refine Ev.cast (Ev.bind (areMany t _ _ 0 (s - 1) hl) (Ev.now _)) ?_
      rw [decide_eq_true hs, decide_eq_true hr, Bool.true_and, Bool.true_and]
      congr 1
      exact decide_eq_decide.mpr (by omega)
    · exact Ev.pos (by simp; omega) (Ev.val (by simp [hr]))
  · refine Ev.neg (by simp; omega) (Ev.succ ?_)
    simp only [impl_ValidRule.j0]
    exact Ev.pos (by trivial) (Ev.val (by simp [hs]))

theorem isRing (l : List Int) (s : Int) (hl : l.length ≤ 35184372088832) (hs : s = 2 ∨ s = 3) : Ev (fun k => impl_IsRing.f k l s) (allIn l 0 (s - 1) && decide (1 ≤ l.length ∧ l.length ≤ 64)) := by
  unfold impl_IsRing.f
  have hsw : wrap64 (s - 1) = s - 1 := wrap_id (by omega) (by omega)
  rw [hsw]
  refine Ev.bnd (areStates s) (Ev.pos (by simpa using hs) ?_)
  exact Ev.cast (Ev.bind (areMany l 1 64 0 (s - 1) hl) (Ev.now _)) (by
    rw [Bool.and_comm]
    congr 1
    exact decide_eq_decide.mpr (by omega))

theorem growNil (n : Int) (h0 : 0 ≤ n) (h1 : n ≤ 1000000000000) : slices_Grow_int64_int64_nil.f n = some [] := by
  unfold slices_Grow_int64_int64_nil.f
  rw [if_neg (by omega), wrap_id (x := n) (by omega) (by omega)]
  by_cases c : n > 0
  · rw [if_pos c, if_pos (by omega), if_pos (by rw [List.length_nil]; omega)]
    simp
  · rw [if_neg c]
theorem concatTwo (a b : List Int) (ha : a.length ≤ 100000000000) (hb : b.length ≤ 100000000000) : Ev (fun k => slices_Concat_int64_int64.f k [a, b]) (a ++ b) := by
  unfold slices_Concat_int64_int64.f
  have e0 : rd_L2 [a, b] 0 = a := rfl
  have e1 : rd_L2 [a, b] 1 = b := rfl
  refine Ev.succ ?_
  simp only [slices_Concat_int64_int64.l0]
  rw [e0, wrap_id (x := 0 + (a.length : Int)) (by omega) (by omega), wrap_id (x := (0 : Int) + 1) (by omega) (by omega)]
  refine Ev.pos (by simp) (Ev.pos (by omega) (Ev.pos (by simp) (Ev.neg (by omega) (Ev.succ ?_))))
  simp only [slices_Concat_int64_int64.l0]
  rw [show (0 : Int) + 1 = 1 from rfl, e1, wrap_id (x := 0 + (a.length : Int) + (b.length : Int)) (by omega) (by omega), wrap_id (x := (1 : Int) + 1) (by omega) (by omega)]
  refine Ev.pos (by simp) (Ev.pos (by omega) (Ev.pos (by simp) (Ev.neg (by omega) (Ev.succ ?_))))
  simp only [slices_Concat_int64_int64.l0]
  refine Ev.neg (by simp) (Ev.bnd (growNil _ (by omega) (by omega)) (Ev.succ ?_))
  simp only [slices_Concat_int64_int64.l1]
  rw [e0, wrap_id (x := (0 : Int) + 1) (by omega) (by omega)]
  refine Ev.pos (by simp) (Ev.pos (by omega) (Ev.pos (by simp) (Ev.pos (by simp; omega) (Ev.succ ?_))))
  simp only [slices_Concat_int64_int64.l1]
  rw [show (0 : Int) + 1 = 1 from rfl, e1, wrap_id (x := (1 : Int) + 1) (by omega) (by omega)]
  refine Ev.pos (by simp) (Ev.pos (by omega) (Ev.pos (by simp) (Ev.pos (by simp; omega) (Ev.succ ?_))))
  simp only [slices_Concat_int64_int64.l1]
  exact Ev.neg (by simp) (Ev.val (by simp))

theorem slicesEqual (l m : List Int) (hl : l.length ≤ 35184372088832) : Ev (fun k => slices_Equal_int64_int64.f k l m) (decide (l = m)) := by
  unfold slices_Equal_int64_int64.f
  by_cases h : l.length = m.length
  · refine Ev.pos (by omega) ?_
    refine Ev.upto l.length (fun i => ∀ j, j < i → l[j]? = m[j]?) (fun _ => ()) _ (fun k _ i => slices_Equal_int64_int64.l0 k l m l.length i) (fun i hi hp ih => ?_) (fun hp => ?_) (fun j hj => by omega)
    · refine Ev.succ ?_
      simp only [slices_Equal_int64_int64.l0]
      refine Ev.pos (by omega) (Ev.pos (by omega) (Ev.pos (by omega) (Ev.pos (by omega) ?_)))
      rw [rd_lt l i (by omega), rd_lt m i (by omega)]
      by_cases e : l[i] = m[i]
      · refine Ev.pos e ?_
        rw [wrap_id (by omega) (by omega)]
        exact ih (fun j hj' => by
          by_cases hji : j < i
          · exact hp j hji
          · obtain rfl : j = i := by omega
            rw [List.getElem?_eq_getElem (by omega), List.getElem?_eq_getElem (by omega), e])
      · refine Ev.neg e (Ev.val ?_)
        rw [eq_comm, Option.some.injEq, decide_eq_false_iff_not]
        rintro rfl
        exact e rfl
    · refine Ev.succ ?_
      simp only [slices_Equal_int64_int64.l0]
      refine Ev.neg (by omega) (Ev.val ?_)
      have : l = m := List.ext_getElem? (fun j => by
        by_cases hjl : j < l.length
        · exact hp j (by omega)
        · rw [List.getElem?_eq_none (by omega), List.getElem?_eq_none (by omega)])
      simp [this]
  · refine Ev.neg (by omega) (Ev.val ?_)
    rw [eq_comm, Option.some.injEq, decide_eq_false_iff_not]
    rintro rfl
    exact h rfl

/-- Bytes. -/
def Bytes (l : List Int) : Prop := ∀ x ∈ l, 0 ≤ x ∧ x ≤ 255
theorem Bytes.of {l : List Int} (h : ∀ x ∈ l, (Lit.int .u8 x).wf = true) : Bytes l := by
  intro x hx
  have := h x hx
  simp only [Lit.wf, Bool.and_eq_true, decide_eq_true_eq] at this
  have h1 : x ≤ 255 := this.2
  have h0 : 0 ≤ x := this.1
  exact ⟨h0, h1⟩
theorem u64_wrap (n : Int) : IntKind.u64.wrap n = n % 18446744073709551616 := by simp [IntKind.wrap, IntKind.bits, IntKind.signed]
theorem src_high (z : Int) : 0 ≤ Go.bits .and .u64 (IntKind.u64.wrap z / 1099511627776) 255 ∧ Go.bits .and .u64 (IntKind.u64.wrap z / 1099511627776) 255 ≤ 255 := by
  have h0 : 0 ≤ IntKind.u64.wrap z := by rw [u64_wrap]; omega
  have h1 : IntKind.u64.wrap z < 18446744073709551616 := by rw [u64_wrap]; omega
  have e := bits_mask .u64 24 (by decide) (fun n h0 h1 => by rw [u64_wrap]; omega) 8 (by decide) (IntKind.u64.wrap z / 1099511627776) (by omega) (by omega)
  rw [show (255 : Int) = 2 ^ 8 - 1 from by decide]
  rw [e]
  omega
/-- The next byte. -/
theorem srcNext (l : List Int) (hb : Bytes l) (hl : l.length ≤ 140737488351232) (at_ seed : Int) (h0 : 0 ≤ at_) (h1 : at_ ≤ 1000000000000000) : ∃ x s, spec_l00Src_next.f l at_ seed = some (x, at_ + 1, s) ∧ 0 ≤ x ∧ x ≤ 255 := by
  unfold spec_l00Src_next.f
  rw [wrap_id (x := at_ + 1) (by omega) (by omega)]
  by_cases c : at_ < (l.length : Int)
  · have hx := hb _ (rd_mem l at_ h0 c)
    rw [if_pos c, if_pos h0, if_pos (by omega), wrap_id (x := rd l at_) (by omega) (by omega)]
    exact ⟨_, _, rfl, hx.1, hx.2⟩
  · rw [if_neg c, if_neg (by omega)]
    have h := src_high (IntKind.u64.wrap ((IntKind.u64.wrap (seed * 6364136223846793005))) + 1442695040888963407)
    rw [wrap_id (by omega) (by omega)]
    exact ⟨_, _, rfl, h.1, h.2⟩
/-- A number below n. -/
theorem srcPick (l : List Int) (hb : Bytes l) (hl : l.length ≤ 140737488351232) (at_ seed : Int) (h0 : 0 ≤ at_) (h1 : at_ ≤ 100000000000000) (n : Int) (hn : 1 ≤ n) (hm : n ≤ 200) : ∃ x a s, spec_l00Src_pick.f l at_ seed n = some (x, a, s) ∧ 0 ≤ x ∧ x < n ∧ 0 ≤ a ∧ a ≤ at_ + 1 := by
  unfold spec_l00Src_pick.f
  by_cases c : n ≤ 1
  · rw [if_pos c]
    exact ⟨_, _, _, rfl, by omega, by omega, h0, by omega⟩
  · obtain ⟨x, s, e, hx0, hx1⟩ := srcNext l hb hl at_ seed h0 (by omega)
    rw [if_neg c, e]
    simp only [Option.bind_some]
    rw [if_neg (by omega), if_neg (by omega), Int.tmod_eq_emod_of_nonneg hx0]
    exact ⟨_, _, _, rfl, Int.emod_nonneg _ (by omega), Int.emod_lt_of_pos _ (by omega), by omega, by omega⟩

theorem RuleOk.valid {s r : Int} {t : List Int} (h : RuleOk s r t) : validRule s r t = true := by
  unfold validRule
  simp only [Bool.and_eq_true, decide_eq_true_eq]
  exact ⟨⟨⟨⟨h.s0, h.s1⟩, ⟨h.r0, h.r1⟩⟩, h.n⟩, allIn_iff.2 h.all⟩
theorem RuleOk.small {s r : Int} {t : List Int} (h : RuleOk s r t) : t.length ≤ 1000000 := by
  have hn := h.n; have := h.s0; have := h.s1; have := h.r0; have := h.r1
  obtain rfl | rfl : s = 2 ∨ s = 3 := by omega
  · obtain rfl | rfl | rfl : r = 0 ∨ r = 1 ∨ r = 2 := by omega
    · simp at hn; omega
    · simp at hn; omega
    · simp at hn; omega
  · obtain rfl | rfl | rfl : r = 0 ∨ r = 1 ∨ r = 2 := by omega
    · simp at hn; omega
    · simp at hn; omega
    · simp at hn; omega
theorem validImpl {s r : Int} {t : List Int} (h : RuleOk s r t) : Ev (fun k => impl_ValidRule.f k s r t) true := Ev.cast (ValidRule s r t (by have := h.small; omega)) h.valid
theorem ring3 {s : Int} {l : List Int} (hs1 : s ≤ 3) (h : RingOk s l) (h64 : l.length ≤ 64) : Ev (fun k => impl_IsRing.f k l 3) true := by
  refine Ev.cast (isRing l 3 (by omega) (Or.inr rfl)) ?_
  have hp := h.pos
  rw [Bool.and_eq_true, decide_eq_true_eq]
  exact ⟨allIn_iff.2 fun x hx => by have := h.all x hx; omega, by omega, h64⟩
theorem ringS {s : Int} {l : List Int} (hs0 : 2 ≤ s) (hs1 : s ≤ 3) (h : RingOk s l) (h64 : l.length ≤ 64) : Ev (fun k => impl_IsRing.f k l s) true := by
  refine Ev.cast (isRing l s (by omega) (by omega)) ?_
  have hp := h.pos
  rw [Bool.and_eq_true, decide_eq_true_eq]
  exact ⟨allIn_iff.2 fun x hx => by have := h.all x hx; omega, by omega, h64⟩
theorem digitsLoop (s : Int) (hs0 : 2 ≤ s) (hs1 : s ≤ 3) : ∀ (j : Nat) (n : Int) (suf : List Int), 0 ≤ n → n ≤ 1000000000000 → j + suf.length ≤ 100 →
    Ev (fun k => impl_digitsOf.l0 k n s ((j : Int) - 1) (List.replicate j 0 ++ suf)) (digs s j n ++ suf) := by
  intro j
  induction j with
  | zero =>
    intro n suf h0 h1 h2
    refine Ev.succ ?_
    simp only [impl_digitsOf.l0]
    exact Ev.neg (by omega) (Ev.val (by simp [digs]))
  | succ j ih =>
    intro n suf h0 h1 h2
    refine Ev.succ ?_
    simp only [impl_digitsOf.l0]
    have e : (((j + 1 : Nat) : Int) - 1) = (j : Int) := by omega
    rw [e]
    have hq0 : 0 ≤ n / s := Int.ediv_nonneg h0 (by omega)
    have hq1 : n / s ≤ n := Int.ediv_le_self _ h0
    rw [Int.tdiv_eq_ediv_of_nonneg h0, Int.tmod_eq_emod_of_nonneg h0, wrap_id (x := n / s) (by omega) (by omega), wrap_id (x := (j : Int) - 1) (by omega) (by omega), Int.toNat_natCast]
    have hset : (List.replicate (j + 1) (0 : Int) ++ suf).set j (n % s) = List.replicate j 0 ++ (n % s :: suf) := by
      rw [List.replicate_succ', List.append_assoc, List.set_append_right _ _ (by simp)]
      simp
    rw [hset]
    refine Ev.pos (by omega) (Ev.neg (by omega) (Ev.pos (by omega) (Ev.pos (by simp; omega) ?_)))
    refine Ev.cast (ih (n / s) (n % s :: suf) hq0 (by omega) (by simp; omega)) ?_
    simp [digs]
theorem digitsOf (s n : Int) (c : Nat) (hs0 : 2 ≤ s) (hs1 : s ≤ 3) (h0 : 0 ≤ n) (h1 : n ≤ 1000000000000) (hc : c ≤ 12) : Ev (fun k => impl_digitsOf.f k n s (c : Int)) (digs s c n) := by
  unfold impl_digitsOf.f
  rw [wrap_id (x := (c : Int) - 1) (by omega) (by omega), Int.toNat_natCast]
  refine Ev.pos (by omega) (Ev.pos (by omega) ?_)
  have := digitsLoop s hs0 hs1 c n [] h0 h1 (by simp; omega)
  rw [List.append_nil, List.append_nil] at this
  exact this
theorem numberOf (s : Int) (hs0 : 2 ≤ s) (hs1 : s ≤ 3) (ds : List Int) (hl : ds.length ≤ 11) (h : Sts s ds) : Ev (fun k => impl_numberOf.f k ds s) (numOf s ds) := by
  unfold impl_numberOf.f
  refine Ev.congr (fun k => ?_) (Ev.upto ds.length (fun _ => True) (fun i => numOf s (ds.take i)) (numOf s ds) (fun k x i => impl_numberOf.l0 k s x ds ds.length i) (fun i hi _ ih => ?_) (fun _ => ?_) trivial)
  · rfl
  · refine Ev.succ ?_
    simp only [impl_numberOf.l0]
    have h1 := numOf_ok s hs0 hs1 i (ds.take i) (by rw [List.length_take]; omega) (fun x hx => h x (List.mem_of_mem_take hx))
    have hb := pow_bound s i (by omega) (by omega) (by omega)
    have hx := h _ (List.getElem_mem hi)
    have e : numOf s (ds.take (i + 1)) = numOf s (ds.take i) * s + ds[i] := by rw [List.take_succ_eq_append_getElem hi, numOf_snoc]
    have hm : 0 ≤ numOf s (ds.take i) * s ∧ numOf s (ds.take i) * s ≤ 3000000000000 := by
      obtain rfl | rfl : s = 2 ∨ s = 3 := by omega
      · omega
      · omega
    refine Ev.pos (by omega) (Ev.pos (by omega) (Ev.pos (by omega) ?_))
    rw [rd_lt ds i hi, wrap_id (x := numOf s (ds.take i) * s) (by omega) (by omega), wrap_id (x := _ + ds[i]) (by omega) (by omega), wrap_id (x := (i : Int) + 1) (by omega) (by omega), ← e]
    exact ih trivial
  · refine Ev.succ ?_
    simp only [impl_numberOf.l0]
    exact Ev.neg (by omega) (Ev.val (by rw [List.take_length]))
theorem tellsImpl {s r : Int} {t : List Int} (hr : RuleOk s r t) (ds : List Int) (hl : ds.length = (2 * r + 1).toNat) (h : Sts s ds) : Ev (fun k => impl_Rule_tells.f k s r t ds) (rd t (numOf s ds)) := by
  unfold impl_Rule_tells.f
  have hr0 := hr.r0; have hr1 := hr.r1
  have hn := numOf_ok s hr.s0 hr.s1 _ ds hl h
  refine Ev.bind (numberOf s hr.s0 hr.s1 ds (by omega) h) (Ev.pos hn.1 (Ev.pos (by rw [hr.n]; exact hn.2) (Ev.now _)))
theorem madeMirrorRule {s h p q : Int} {t : List Int} (hs0 : 2 ≤ s) (hs1 : s ≤ 3) (h0 : 0 ≤ h) (h1 : h ≤ 2) (tell : List Int → Int) (hx : ∀ ds, ds.length = (2 * h + 1).toNat → Sts s ds → Ev (fun k => impl_MirrorRule_1.f k ds p q t) (tell ds)) :
    Ev (fun k => impl_made_impl_MirrorRule_1.f k s h p q t) (s, h, madeT s (2 * h + 1).toNat tell) := by
  unfold impl_made_impl_MirrorRule_1.f
  have hp := pow_bound s (2 * h + 1).toNat (by omega) (by omega) (by omega)
  have hc : impl_Rule_cells.f s h [] = some (2 * h + 1) := ruleCells s h [] h0 h1
  refine Ev.bnd hc (Ev.bind (raised s (2 * h + 1) (by omega) (by omega) (by omega) (by omega)) ?_)
  obtain ⟨N, hN⟩ := Int.eq_ofNat_of_zero_le hp.1
  have hN2 : madeT s (2 * h + 1).toNat tell = (List.range N).map fun (i : Nat) => tell (digs s (2 * h + 1).toNat (i : Int)) := by unfold madeT; rw [hN]; rfl
  rw [hN, hN2]
  refine Ev.congr (fun k => ?_) (Ev.upto N (fun _ => True) (fun i => (List.range i).map fun (i : Nat) => tell (digs s (2 * h + 1).toNat (i : Int))) (s, h, (List.range N).map fun (i : Nat) => tell (digs s (2 * h + 1).toNat (i : Int))) (fun k acc x => impl_made_impl_MirrorRule_1.l0 k s N x p q t s h acc) (fun i hi _ ih => ?_) (fun _ => ?_) trivial)
  · rfl
  · refine Ev.succ ?_
    simp only [impl_made_impl_MirrorRule_1.l0]
    have hc' : impl_Rule_cells.f s h ((List.range i).map fun (i : Nat) => tell (digs s (2 * h + 1).toNat (i : Int))) = some (2 * h + 1) := hc
    have hd := digitsOf s (i : Int) (2 * h + 1).toNat (by omega) (by omega) (by omega) (by omega) (by omega)
    rw [show (((2 * h + 1).toNat : Nat) : Int) = 2 * h + 1 by omega] at hd
    refine Ev.pos (by omega) (Ev.bnd hc' (Ev.bind hd (Ev.bind (hx _ (digs_length _ _ _) (digs_ok s hs0 hs1 _ _)) (Ev.pos (by simp; omega) ?_))))
    rw [wrap_id (x := (i : Int) + 1) (by omega) (by omega)]
    have := ih trivial
    rw [List.range_succ, List.map_append] at this
    exact this
  · refine Ev.succ ?_
    simp only [impl_made_impl_MirrorRule_1.l0]
    exact Ev.neg (by omega) (Ev.val (by simp))
theorem madeOppositeRule {s h p q : Int} {t : List Int} (hs0 : 2 ≤ s) (hs1 : s ≤ 3) (h0 : 0 ≤ h) (h1 : h ≤ 2) (tell : List Int → Int) (snd_ : List Int → List Int) (hx : ∀ ds, ds.length = (2 * h + 1).toNat → Sts s ds → Ev (fun k => impl_OppositeRule_1.f k ds p q t) (tell ds, snd_ ds)) :
    Ev (fun k => impl_made_impl_OppositeRule_1.f k s h p q t) (s, h, madeT s (2 * h + 1).toNat tell) := by
  unfold impl_made_impl_OppositeRule_1.f
  have hp := pow_bound s (2 * h + 1).toNat (by omega) (by omega) (by omega)
  have hc : impl_Rule_cells.f s h [] = some (2 * h + 1) := ruleCells s h [] h0 h1
  refine Ev.bnd hc (Ev.bind (raised s (2 * h + 1) (by omega) (by omega) (by omega) (by omega)) ?_)
  obtain ⟨N, hN⟩ := Int.eq_ofNat_of_zero_le hp.1
  have hN2 : madeT s (2 * h + 1).toNat tell = (List.range N).map fun (i : Nat) => tell (digs s (2 * h + 1).toNat (i : Int)) := by unfold madeT; rw [hN]; rfl
  rw [hN, hN2]
  refine Ev.congr (fun k => ?_) (Ev.upto N (fun _ => True) (fun i => (List.range i).map fun (i : Nat) => tell (digs s (2 * h + 1).toNat (i : Int))) (s, h, (List.range N).map fun (i : Nat) => tell (digs s (2 * h + 1).toNat (i : Int))) (fun k acc x => impl_made_impl_OppositeRule_1.l0 k s N x p q t s h acc) (fun i hi _ ih => ?_) (fun _ => ?_) trivial)
  · rfl
  · refine Ev.succ ?_
    simp only [impl_made_impl_OppositeRule_1.l0]
    have hc' : impl_Rule_cells.f s h ((List.range i).map fun (i : Nat) => tell (digs s (2 * h + 1).toNat (i : Int))) = some (2 * h + 1) := hc
    have hd := digitsOf s (i : Int) (2 * h + 1).toNat (by omega) (by omega) (by omega) (by omega) (by omega)
    rw [show (((2 * h + 1).toNat : Nat) : Int) = 2 * h + 1 by omega] at hd
    refine Ev.pos (by omega) (Ev.bnd hc' (Ev.bind hd (Ev.bind (hx _ (digs_length _ _ _) (digs_ok s hs0 hs1 _ _)) (Ev.pos (by simp; omega) ?_))))
    rw [wrap_id (x := (i : Int) + 1) (by omega) (by omega)]
    have := ih trivial
    rw [List.range_succ, List.map_append] at this
    exact this
  · refine Ev.succ ?_
    simp only [impl_made_impl_OppositeRule_1.l0]
    exact Ev.neg (by omega) (Ev.val (by simp))
theorem madeWiderRule {s h p q : Int} {t : List Int} (hs0 : 2 ≤ s) (hs1 : s ≤ 3) (h0 : 0 ≤ h) (h1 : h ≤ 2) (tell : List Int → Int) (hx : ∀ ds, ds.length = (2 * h + 1).toNat → Sts s ds → Ev (fun k => impl_WiderRule_1.f k ds p q t) (tell ds)) :
    Ev (fun k => impl_made_impl_WiderRule_1.f k s h p q t) (s, h, madeT s (2 * h + 1).toNat tell) := by
  unfold impl_made_impl_WiderRule_1.f
  have hp := pow_bound s (2 * h + 1).toNat (by omega) (by omega) (by omega)
  have hc : impl_Rule_cells.f s h [] = some (2 * h + 1) := ruleCells s h [] h0 h1
  refine Ev.bnd hc (Ev.bind (raised s (2 * h + 1) (by omega) (by omega) (by omega) (by omega)) ?_)
  obtain ⟨N, hN⟩ := Int.eq_ofNat_of_zero_le hp.1
  have hN2 : madeT s (2 * h + 1).toNat tell = (List.range N).map fun (i : Nat) => tell (digs s (2 * h + 1).toNat (i : Int)) := by unfold madeT; rw [hN]; rfl
  rw [hN, hN2]
  refine Ev.congr (fun k => ?_) (Ev.upto N (fun _ => True) (fun i => (List.range i).map fun (i : Nat) => tell (digs s (2 * h + 1).toNat (i : Int))) (s, h, (List.range N).map fun (i : Nat) => tell (digs s (2 * h + 1).toNat (i : Int))) (fun k acc x => impl_made_impl_WiderRule_1.l0 k s N x p q t s h acc) (fun i hi _ ih => ?_) (fun _ => ?_) trivial)
  · rfl
  · refine Ev.succ ?_
    simp only [impl_made_impl_WiderRule_1.l0]
    have hc' : impl_Rule_cells.f s h ((List.range i).map fun (i : Nat) => tell (digs s (2 * h + 1).toNat (i : Int))) = some (2 * h + 1) := hc
    have hd := digitsOf s (i : Int) (2 * h + 1).toNat (by omega) (by omega) (by omega) (by omega) (by omega)
    rw [show (((2 * h + 1).toNat : Nat) : Int) = 2 * h + 1 by omega] at hd
    refine Ev.pos (by omega) (Ev.bnd hc' (Ev.bind hd (Ev.bind (hx _ (digs_length _ _ _) (digs_ok s hs0 hs1 _ _)) (Ev.pos (by simp; omega) ?_))))
    rw [wrap_id (x := (i : Int) + 1) (by omega) (by omega)]
    have := ih trivial
    rw [List.range_succ, List.map_append] at this
    exact this
  · refine Ev.succ ?_
    simp only [impl_made_impl_WiderRule_1.l0]
    exact Ev.neg (by omega) (Ev.val (by simp))
theorem madeJoinRules {s h p q p2 q2 : Int} {t t2 : List Int} (hs0 : 2 ≤ s) (hs1 : s ≤ 3) (h0 : 0 ≤ h) (h1 : h ≤ 2) (tell : List Int → Int) (hx : ∀ ds, ds.length = (2 * h + 1).toNat → Sts s ds → Ev (fun k => impl_JoinRules_1.f k ds p q t p2 q2 t2) (tell ds)) :
    Ev (fun k => impl_made_impl_JoinRules_1.f k s h p q t p2 q2 t2) (s, h, madeT s (2 * h + 1).toNat tell) := by
  unfold impl_made_impl_JoinRules_1.f
  have hp := pow_bound s (2 * h + 1).toNat (by omega) (by omega) (by omega)
  have hc : impl_Rule_cells.f s h [] = some (2 * h + 1) := ruleCells s h [] h0 h1
  refine Ev.bnd hc (Ev.bind (raised s (2 * h + 1) (by omega) (by omega) (by omega) (by omega)) ?_)
  obtain ⟨N, hN⟩ := Int.eq_ofNat_of_zero_le hp.1
  have hN2 : madeT s (2 * h + 1).toNat tell = (List.range N).map fun (i : Nat) => tell (digs s (2 * h + 1).toNat (i : Int)) := by unfold madeT; rw [hN]; rfl
  rw [hN, hN2]
  refine Ev.congr (fun k => ?_) (Ev.upto N (fun _ => True) (fun i => (List.range i).map fun (i : Nat) => tell (digs s (2 * h + 1).toNat (i : Int))) (s, h, (List.range N).map fun (i : Nat) => tell (digs s (2 * h + 1).toNat (i : Int))) (fun k acc x => impl_made_impl_JoinRules_1.l0 k s N x p q t p2 q2 t2 s h acc) (fun i hi _ ih => ?_) (fun _ => ?_) trivial)
  · rfl
  · refine Ev.succ ?_
    simp only [impl_made_impl_JoinRules_1.l0]
    have hc' : impl_Rule_cells.f s h ((List.range i).map fun (i : Nat) => tell (digs s (2 * h + 1).toNat (i : Int))) = some (2 * h + 1) := hc
    have hd := digitsOf s (i : Int) (2 * h + 1).toNat (by omega) (by omega) (by omega) (by omega) (by omega)
    rw [show (((2 * h + 1).toNat : Nat) : Int) = 2 * h + 1 by omega] at hd
    refine Ev.pos (by omega) (Ev.bnd hc' (Ev.bind hd (Ev.bind (hx _ (digs_length _ _ _) (digs_ok s hs0 hs1 _ _)) (Ev.pos (by simp; omega) ?_))))
    rw [wrap_id (x := (i : Int) + 1) (by omega) (by omega)]
    have := ih trivial
    rw [List.range_succ, List.map_append] at this
    exact this
  · refine Ev.succ ?_
    simp only [impl_made_impl_JoinRules_1.l0]
    exact Ev.neg (by omega) (Ev.val (by simp))
theorem reversed13 (ds : List Int) (h : ds.length = 1 ∨ ds.length = 3) : Ev (fun k => impl_reversed.f k ds) ds.reverse := by
  rcases h with h | h
  · obtain ⟨a, rfl⟩ := List.length_eq_one_iff.1 h
    exact Ev.of_mono (fun k => impl_reversed.mono _ k) 5 (by simp [impl_reversed.f, slices_Clone_int64_int64.f, slices_Reverse_int64_int64.f, slices_Reverse_int64_int64.l0, wrap64])
  · obtain ⟨a, b, c, rfl⟩ : ∃ a b c, ds = [a, b, c] := by
      match ds, h with
      | [a, b, c], _ => exact ⟨a, b, c, rfl⟩
    exact Ev.of_mono (fun k => impl_reversed.mono _ k) 5 (by simp [impl_reversed.f, slices_Clone_int64_int64.f, slices_Reverse_int64_int64.f, slices_Reverse_int64_int64.l0, wrap64, rd])
theorem oddOf {r : Int} (h0 : 0 ≤ r) (h1 : r ≤ 1) {ds : List Int} (hl : ds.length = (2 * r + 1).toNat) : ds.length = 1 ∨ ds.length = 3 := by omega
theorem Sts.rev {s : Int} {ds : List Int} (h : Sts s ds) : Sts s ds.reverse := fun x hx => h x (by simpa using hx)
/-- The mirrored rule. -/
def mirT (s r : Int) (t : List Int) : List Int := madeT s (2 * r + 1).toNat fun ds => rd t (numOf s ds.reverse)
def oppT (s r : Int) (t : List Int) : List Int := madeT s (2 * r + 1).toNat fun ds => s - 1 - rd t (numOf s (oppL s ds))
def widT (s r : Int) (t : List Int) : List Int := madeT s (2 * (r + 1) + 1).toNat fun ds => rd t (numOf s ((ds.take (ds.length - 1)).drop 1))
def joiT (s r q : Int) (t u : List Int) : List Int := madeT s (2 * (r + q) + 1).toNat fun ds => rd u (numOf s (shorterL s r t ds))
theorem mir_ok {s r : Int} {t : List Int} (hr : RuleOk s r t) : RuleOk s r (mirT s r t) := madeT_ok hr.s0 hr.s1 hr.r0 hr.r1 fun ds hl h => tells_ok hr _ (by simpa using hl) h.rev
theorem opp_ok {s r : Int} {t : List Int} (hr : RuleOk s r t) : RuleOk s r (oppT s r t) := madeT_ok hr.s0 hr.s1 hr.r0 hr.r1 fun ds hl h => by
  have := tells_ok hr (oppL s ds) (by simpa [oppL] using hl) (oppL_ok h)
  simp only at this; omega
theorem wid_ok {s r : Int} {t : List Int} (hr : RuleOk s r t) (h1 : r ≤ 1) : RuleOk s (r + 1) (widT s r t) := madeT_ok hr.s0 hr.s1 (by have := hr.r0; omega) (by omega) fun ds hl h => by
  have hr0 := hr.r0
  exact tells_ok hr _ (by rw [List.length_drop, List.length_take]; omega) fun x hx => h x (List.mem_of_mem_take (List.mem_of_mem_drop hx))
theorem joi_ok {s r q : Int} {t u : List Int} (hr : RuleOk s r t) (hq : RuleOk s q u) (h2 : r + q ≤ 2) : RuleOk s (r + q) (joiT s r q t u) := madeT_ok hr.s0 hr.s1 (by have := hr.r0; have := hq.r0; omega) h2 fun ds hl h => by
  have hr0 := hr.r0; have hq0 := hq.r0
  have := shorter_ok hr (2 * q + 1).toNat ds (by omega) h
  exact tells_ok hq _ this.1 this.2
theorem mirrorImpl {s r : Int} {t : List Int} (hr : RuleOk s r t) (h1 : r ≤ 1) : Ev (fun k => impl_MirrorRule.f k s r t) (s, r, mirT s r t, true) := by
  unfold impl_MirrorRule.f
  have hr0 := hr.r0
  refine Ev.bind (validImpl hr) (Ev.pos rfl (Ev.bind (madeMirrorRule hr.s0 hr.s1 hr.r0 hr.r1 (fun ds => rd t (numOf s ds.reverse)) fun ds hl h => ?_) (Ev.now _)))
  unfold impl_MirrorRule_1.f
  exact Ev.bind (reversed13 ds (oddOf hr0 h1 hl)) (Ev.bind (tellsImpl hr _ (by simpa using hl) h.rev) (Ev.now _))
theorem oppositeOne {s r : Int} {t : List Int} (hr : RuleOk s r t) (ds : List Int) (hl : ds.length = (2 * r + 1).toNat) (h : Sts s ds) : Ev (fun k => impl_OppositeRule_1.f k ds s r t) (s - 1 - rd t (numOf s (oppL s ds)), oppL s ds) := by
  unfold impl_OppositeRule_1.f
  have hr0 := hr.r0; have hr1 := hr.r1; have hs0 := hr.s0; have hs1 := hr.s1
  have hlo : (oppL s ds).length = ds.length := by simp [oppL]
  refine Ev.congr (fun k => ?_) (Ev.upto ds.length (fun _ => True) (fun i => (oppL s ds).take i ++ ds.drop i) _ (fun k x i => impl_OppositeRule_1.l0 k x ds.length i s r t) (fun i hi _ ih => ?_) (fun _ => ?_) trivial)
  · rfl
  · refine Ev.succ ?_
    simp only [impl_OppositeRule_1.l0]
    have hlen : ((oppL s ds).take i ++ ds.drop i).length = ds.length := by rw [List.length_append, List.length_take, List.length_drop, hlo]; omega
    refine Ev.pos (by omega) (Ev.pos (by omega) (Ev.pos (by rw [hlen]; omega) ?_))
    have hx := h _ (List.getElem_mem hi)
    have e1 : rd ((oppL s ds).take i ++ ds.drop i) (i : Int) = ds[i] := by
      rw [rd_lt _ i (by rw [hlen]; exact hi), List.getElem_append_right (by rw [List.length_take, hlo]; omega), List.getElem_drop]
      congr 1; rw [List.length_take, hlo]; omega
    have e2 : s - 1 - ds[i] = (oppL s ds)[i]'(by rw [hlo]; exact hi) := by simp [oppL]
    have hs := take_drop_set (oppL s ds) ds i (by rw [hlo]; exact hi) hlo
    rw [e1, wrap_id (x := s - 1) (by omega) (by omega), wrap_id (x := s - 1 - ds[i]) (by omega) (by omega), wrap_id (x := (i : Int) + 1) (by omega) (by omega), Int.toNat_natCast, e2, hs]
    exact ih trivial
  · refine Ev.succ ?_
    simp only [impl_OppositeRule_1.l0]
    have e : (oppL s ds).take ds.length ++ ds.drop ds.length = oppL s ds := by rw [List.drop_length, List.append_nil, List.take_of_length_le (by rw [hlo]; omega)]
    rw [e]
    refine Ev.neg (by omega) (Ev.bind (tellsImpl hr _ (by rw [hlo]; exact hl) (oppL_ok h)) (Ev.val ?_))
    have := tells_ok hr _ (by rw [hlo]; exact hl) (oppL_ok h)
    simp only at this
    rw [wrap_id (x := s - 1) (by omega) (by omega), wrap_id (by omega) (by omega)]
theorem oppositeImpl {s r : Int} {t : List Int} (hr : RuleOk s r t) : Ev (fun k => impl_OppositeRule.f k s r t) (s, r, oppT s r t, true) := by
  unfold impl_OppositeRule.f
  exact Ev.bind (validImpl hr) (Ev.pos rfl (Ev.bind (madeOppositeRule hr.s0 hr.s1 hr.r0 hr.r1 (fun ds => s - 1 - rd t (numOf s (oppL s ds))) (oppL s) fun ds hl h => oppositeOne hr ds hl h) (Ev.now _)))
theorem widerImpl {s r : Int} {t : List Int} (hr : RuleOk s r t) (h1 : r ≤ 1) : Ev (fun k => impl_WiderRule.f k s r t) (s, r + 1, widT s r t, true) := by
  unfold impl_WiderRule.f
  have hr0 := hr.r0
  rw [wrap_id (x := r + 1) (by omega) (by omega)]
  refine Ev.bind (validImpl hr) (Ev.pos rfl (Ev.neg (by omega) (Ev.bind (madeWiderRule hr.s0 hr.s1 (by omega) (by omega) (fun ds => rd t (numOf s ((ds.take (ds.length - 1)).drop 1))) fun ds hl h => ?_) (Ev.now _))))
  unfold impl_WiderRule_1.f
  have e : wrap64 ((ds.length : Int) - 1) = ((ds.length - 1 : Nat) : Int) := by rw [wrap_id (by omega) (by omega)]; omega
  rw [e, Int.toNat_natCast]
  exact Ev.pos (by omega) (Ev.pos (by omega) (Ev.bind (tellsImpl hr _ (by rw [List.length_drop, List.length_take]; omega) fun x hx => h x (List.mem_of_mem_take (List.mem_of_mem_drop hx))) (Ev.now _)))
theorem shorterImpl {s r : Int} {t : List Int} (hr : RuleOk s r t) (c : Nat) (ds : List Int) (hl : ds.length = c + (2 * r).toNat) (hc : c ≤ 100) (h : Sts s ds) : Ev (fun k => impl_Rule_shorter.f k s r t ds) (shorterL s r t ds) := by
  unfold impl_Rule_shorter.f
  have hr0 := hr.r0; have hr1 := hr.r1
  have hlen := (shorter_ok hr c ds hl h).1
  refine Ev.congr (fun k => ?_) (Ev.upto c (fun _ => True) (fun i => (shorterL s r t ds).take i) _ (fun k x i => impl_Rule_shorter.l0 k ds x i s r t) (fun i hi _ ih => ?_) (fun _ => ?_) trivial)
  · rfl
  · refine Ev.succ ?_
    simp only [impl_Rule_shorter.l0]
    have e : wrap64 ((i : Int) + (2 * r + 1)) = ((i + (2 * r + 1).toNat : Nat) : Int) := by rw [wrap_id (by omega) (by omega)]; omega
    refine Ev.bnd (ruleCells s r t hr0 hr1) ?_
    rw [e]
    refine Ev.pos (by omega) (Ev.bnd (ruleCells s r t hr0 hr1) ?_)
    rw [e, Int.toNat_natCast, Int.toNat_natCast]
    refine Ev.pos (by omega) (Ev.pos (by omega) (Ev.pos (by omega) (Ev.bind (tellsImpl hr _ (by rw [List.length_drop, List.length_take]; omega) fun x hx => h x (List.mem_of_mem_take (List.mem_of_mem_drop hx))) (Ev.pos (by rw [List.length_take]; omega) ?_))))
    rw [wrap_id (x := (i : Int) + 1) (by omega) (by omega)]
    have := ih trivial
    rw [List.take_succ_eq_append_getElem (by rw [hlen]; exact hi)] at this
    refine Ev.congr (fun k => ?_) this
    congr 3
    simp [shorterL]
  · refine Ev.succ ?_
    simp only [impl_Rule_shorter.l0]
    refine Ev.bnd (ruleCells s r t hr0 hr1) (Ev.neg ?_ (Ev.val ?_))
    · rw [wrap_id (by omega) (by omega)]; omega
    · rw [List.take_of_length_le (by omega)]
theorem joinImpl {s r q : Int} {t u : List Int} (hr : RuleOk s r t) (hq : RuleOk s q u) (h2 : r + q ≤ 2) : Ev (fun k => impl_JoinRules.f k s r t s q u) (s, r + q, joiT s r q t u, true) := by
  unfold impl_JoinRules.f
  have hr0 := hr.r0; have hq0 := hq.r0
  rw [wrap_id (x := r + q) (by omega) (by omega)]
  refine Ev.bind (validImpl hr) (Ev.pos rfl (Ev.bind (validImpl hq) (Ev.pos rfl (Ev.pos rfl (Ev.neg (by omega) (Ev.bind (madeJoinRules hr.s0 hr.s1 (by omega) h2 (fun ds => rd u (numOf s (shorterL s r t ds))) fun ds hl h => ?_) (Ev.now _)))))))
  unfold impl_JoinRules_1.f
  have hs := shorter_ok hr (2 * q + 1).toNat ds (by omega) h
  exact Ev.bind (shorterImpl hr (2 * q + 1).toNat ds (by omega) (by omega) h) (Ev.bind (tellsImpl hq _ hs.1 hs.2) (Ev.now _))

theorem ringed1 {s r : Int} {t ring : List Int} (hr : RuleOk s r t) (h : RingOk s ring) (h64 : ring.length ≤ 64) : Ev (fun k => impl_ringed.f k s r t [ring]) true := by
  unfold impl_ringed.f slices_ContainsFunc_int64_int64_impl_ringed_1.f slices_IndexFunc_int64_int64_impl_ringed_1.f
  refine Ev.bind (validImpl hr) (Ev.pos rfl (Ev.bind (Ev.bind (a := -1) (Ev.succ ?_) (Ev.now _)) (Ev.val (by simp))))
  simp only [slices_IndexFunc_int64_int64_impl_ringed_1.l0]
  refine Ev.pos (by simp) (Ev.pos (by omega) (Ev.pos (by simp) (Ev.bind (a := false) ?_ (Ev.neg (by simp) (Ev.succ ?_)))))
  · unfold impl_ringed_1.f
    have e : rd_L2 [ring] 0 = ring := rfl
    rw [e]
    exact Ev.bind (ringS hr.s0 hr.s1 h h64) (Ev.pos rfl (Ev.pos (by simp) (Ev.val (by simp))))
  · simp only [slices_IndexFunc_int64_int64_impl_ringed_1.l0]
    exact Ev.neg (by simp [wrap64]) (Ev.now _)
theorem cloneI (l : List Int) (h : l.length ≤ 1000000) : slices_Clone_int64_int64.f l = some l := by
  unfold slices_Clone_int64_int64.f
  show (if [].length + l.length < 17592186044416 then some ([] ++ l) else none) = some l
  rw [if_pos (by simp; omega), List.nil_append]
theorem runImpl {s r : Int} {t ring : List Int} (hr : RuleOk s r t) (h : RingOk s ring) (h64 : ring.length ≤ 64) (n : Nat) (hn : n ≤ 1000) : Ev (fun k => impl_RunRing.f k s r t ring n) (ringSteps s r t ring n, true) := by
  unfold impl_RunRing.f
  have hw : impl_within.f (n : Int) 0 1000 = some true := by rw [within]; simp; omega
  refine Ev.bind (ringed1 hr h h64) (Ev.pos rfl (Ev.bnd hw (Ev.succ ?_)))
  simp only [impl_RunRing.j0]
  refine Ev.neg (by simp) (Ev.bnd (cloneI ring h.le) ?_)
  refine Ev.congr (fun k => ?_) (Ev.upto n (fun _ => True) (fun i => ringSteps s r t ring i) _ (fun k x i => impl_RunRing.l0 k x n i s r t) (fun i hi _ ih => ?_) (fun _ => ?_) trivial)
  · rfl
  · refine Ev.succ ?_
    simp only [impl_RunRing.l0]
    refine Ev.pos (by omega) (Ev.bind (stepImpl hr (ringSteps_ok hr h i)) ?_)
    rw [wrap_id (x := (i : Int) + 1) (by omega) (by omega)]
    exact ih trivial
  · refine Ev.succ ?_
    simp only [impl_RunRing.l0]
    exact Ev.neg (by omega) (Ev.now _)
theorem stepRing {s r : Int} {t ring : List Int} (hr : RuleOk s r t) (h : RingOk s ring) (h64 : ring.length ≤ 64) : Ev (fun k => impl_StepRing.f k s r t ring) (ringStep s r t ring, true) := by
  unfold impl_StepRing.f
  exact Ev.bind (runImpl hr h h64 1 (by omega)) (Ev.now _)
theorem rd_L1_map (n : Nat) (f : Nat → List Int) (i : Nat) (h : i < n) : rd_L2 ((List.range n).map f) (i : Int) = f i := by
  unfold rd_L2
  simp [h]
theorem rowsImpl {s r : Int} {t ring : List Int} (hr : RuleOk s r t) (h : RingOk s ring) (h64 : ring.length ≤ 64) (n : Nat) (hn : n ≤ 64) : Ev (fun k => impl_RowsOfRing.f k s r t ring n) ((List.range (n + 1)).map fun i => ringSteps s r t ring i, true) := by
  unfold impl_RowsOfRing.f
  have hw : impl_within.f (n : Int) 0 64 = some true := by rw [within]; simp; omega
  refine Ev.bind (ringed1 hr h h64) (Ev.pos rfl (Ev.bnd hw (Ev.succ ?_)))
  simp only [impl_RowsOfRing.j0]
  refine Ev.neg (by simp) (Ev.bnd (cloneI ring h.le) ?_)
  refine Ev.congr (fun k => ?_) (Ev.upto n (fun _ => True) (fun i => (List.range (i + 1)).map fun i => ringSteps s r t ring i) _ (fun k x i => impl_RowsOfRing.l0 k x n i s r t) (fun i hi _ ih => ?_) (fun _ => ?_) trivial)
  · rfl
  · refine Ev.succ ?_
    simp only [impl_RowsOfRing.l0]
    rw [rd_L1_map (i + 1) _ i (by omega)]
    refine Ev.pos (by omega) (Ev.pos (by omega) (Ev.pos (by simp; omega) (Ev.bind (stepImpl hr (ringSteps_ok hr h i)) (Ev.pos (by simp; omega) ?_))))
    rw [wrap_id (x := (i : Int) + 1) (by omega) (by omega)]
    have := ih trivial
    rw [List.range_succ, List.map_append] at this
    exact this
  · refine Ev.succ ?_
    simp only [impl_RowsOfRing.l0]
    exact Ev.neg (by omega) (Ev.now _)
theorem sharedImpl {s r : Int} {t a b : List Int} (hr : RuleOk s r t) (ha : RingOk s a) (ha64 : a.length ≤ 64) (hb : RingOk s b) (hb64 : b.length ≤ 64) (n : Nat) (hn : n ≤ 1000) (w : Int) (h0 : 1 ≤ w) (h1 : w ≤ 8) :
    Ev (fun k => impl_RunsShared.f k s r t [a, b] n w) ([ringSteps s r t a n, ringSteps s r t b n], true) := by
  unfold impl_RunsShared.f
  have hw : impl_areWorkers.f w = some true := by unfold impl_areWorkers.f; rw [within]; simp; omega
  refine Ev.neg (by simp) (Ev.neg (by simp) (Ev.bnd hw (Ev.succ ?_)))
  simp only [impl_RunsShared.j0]
  refine Ev.neg (by simp) (Ev.succ ?_)
  simp only [impl_RunsShared.l0]
  have e0 : rd_L2 [a, b] 0 = a := rfl
  have e1 : rd_L2 [a, b] 1 = b := rfl
  rw [e0, wrap_id (x := (0 : Int) + 1) (by omega) (by omega)]
  refine Ev.pos (by simp) (Ev.pos (by omega) (Ev.pos (by simp) (Ev.bind (runImpl hr ha ha64 n hn) (Ev.pos rfl (Ev.pos (by simp) (Ev.succ ?_))))))
  simp only [impl_RunsShared.l0]
  rw [show (0 : Int) + 1 = 1 from rfl, e1, wrap_id (x := (1 : Int) + 1) (by omega) (by omega)]
  refine Ev.pos (by simp) (Ev.pos (by omega) (Ev.pos (by simp) (Ev.bind (runImpl hr hb hb64 n hn) (Ev.pos rfl (Ev.pos (by simp) (Ev.succ ?_))))))
  simp only [impl_RunsShared.l0]
  exact Ev.neg (by simp) (Ev.val (by simp))
theorem turnedImpl (l : List Int) (h0 : 0 < l.length) (h1 : l.length ≤ 1000000) (by_ : Int) (hb : 0 ≤ by_) : Ev (fun k => impl_turned.f k l by_) (turnL l by_) := by
  unfold impl_turned.f
  rw [Int.tmod_eq_emod_of_nonneg hb]
  have := Int.emod_nonneg by_ (b := (l.length : Int)) (by omega)
  have := Int.emod_lt_of_pos by_ (b := (l.length : Int)) (by omega)
  exact Ev.neg (by omega) (Ev.pos (by omega) (Ev.pos (by omega) (Ev.bind (concatTwo _ _ (by simp; omega) (by simp; omega)) (Ev.now _))))
theorem turnRing {s : Int} {ring : List Int} (hs1 : s ≤ 3) (h : RingOk s ring) (h64 : ring.length ≤ 64) (by_ : Int) (h0 : 0 ≤ by_) (h1 : by_ ≤ 64) : Ev (fun k => impl_TurnRing.f k ring by_) (turnL ring by_, true) := by
  unfold impl_TurnRing.f
  have hw : impl_within.f by_ 0 64 = some true := by rw [within]; simp; omega
  exact Ev.bind (ring3 hs1 h h64) (Ev.pos rfl (Ev.bnd hw (Ev.pos rfl (Ev.bind (turnedImpl ring h.pos h.le by_ h0) (Ev.now _)))))
theorem sameImpl (s r : Int) (t u : List Int) (hl : t.length ≤ 1000000) (e : t = u) : Ev (fun k => impl_SameRule.f k s r t s r u) true := by
  unfold impl_SameRule.f
  exact Ev.pos rfl (Ev.pos rfl (Ev.bind (Ev.cast (slicesEqual t u (by omega)) (by simp [e])) (Ev.now _)))
theorem r8Same (l m : List Int) (hl : l.length ≤ 1000000) (e : l = m) : Ev (fun k => laws_r8Same.f k l m) true := by
  subst e
  unfold laws_r8Same.f
  refine Ev.pos rfl ?_
  refine Ev.upto l.length (fun _ => True) (fun _ => ()) _ (fun k _ i => laws_r8Same.l0 k l l i) (fun i hi _ ih => ?_) (fun _ => ?_) trivial
  · refine Ev.succ ?_
    simp only [laws_r8Same.l0]
    refine Ev.pos (by omega) (Ev.pos (by omega) (Ev.pos (by omega) (Ev.pos trivial ?_)))
    rw [wrap_id (x := (i : Int) + 1) (by omega) (by omega)]
    exact ih trivial
  · refine Ev.succ ?_
    simp only [laws_r8Same.l0]
    exact Ev.neg (by omega) (Ev.now _)
theorem backLoop (l : List Int) (hl : l.length ≤ 1000000) : ∀ (j : Nat) (acc : List Int), j ≤ l.length → acc.length + j ≤ 2000000 → Ev (fun k => laws_r8Back.l0 k l acc ((j : Int) - 1)) (acc ++ (l.take j).reverse) := by
  intro j
  induction j with
  | zero => intro acc h h2; refine Ev.succ ?_; simp only [laws_r8Back.l0]; exact Ev.neg (by omega) (Ev.val (by simp))
  | succ j ih =>
    intro acc h h2
    refine Ev.succ ?_
    simp only [laws_r8Back.l0]
    rw [show ((j + 1 : Nat) : Int) - 1 = (j : Int) by omega, wrap_id (x := (j : Int) - 1) (by omega) (by omega), rd_lt l j (by omega)]
    refine Ev.pos (by omega) (Ev.pos (by omega) (Ev.pos (by omega) (Ev.pos (by omega) ?_)))
    refine Ev.cast (ih (acc ++ [l[j]]) (by omega) (by simp; omega)) ?_
    rw [List.take_succ_eq_append_getElem (by omega), List.reverse_append, List.append_assoc]; rfl
theorem r8Back (l : List Int) (hl : l.length ≤ 1000000) : Ev (fun k => laws_r8Back.f k l) l.reverse := by
  unfold laws_r8Back.f
  rw [wrap_id (x := (l.length : Int) - 1) (by omega) (by omega)]
  have := backLoop l hl l.length [] (Nat.le_refl _) (by simp; omega)
  simpa using this
theorem r8Opposite {s : Int} (hs0 : 2 ≤ s) (hs1 : s ≤ 3) (l : List Int) (h : RingOk s l) : Ev (fun k => laws_r8Opposite.f k l s) (oppL s l) := by
  unfold laws_r8Opposite.f
  have hl := h.le
  have hlo : (oppL s l).length = l.length := by simp [oppL]
  refine Ev.congr (fun k => ?_) (Ev.upto l.length (fun _ => True) (fun i => (oppL s l).take i) _ (fun k x i => laws_r8Opposite.l0 k l s x i) (fun i hi _ ih => ?_) (fun _ => ?_) trivial)
  · rfl
  · refine Ev.succ ?_
    simp only [laws_r8Opposite.l0]
    have hx := h.all _ (List.getElem_mem hi)
    rw [rd_lt l i hi, wrap_id (x := s - 1) (by omega) (by omega), wrap_id (x := s - 1 - l[i]) (by omega) (by omega), wrap_id (x := (i : Int) + 1) (by omega) (by omega)]
    refine Ev.pos (by omega) (Ev.pos (by omega) (Ev.pos (by rw [List.length_take]; omega) ?_))
    have := ih trivial
    rw [List.take_succ_eq_append_getElem (by rw [hlo]; exact hi)] at this
    simpa [oppL] using this
  · refine Ev.succ ?_
    simp only [laws_r8Opposite.l0]
    exact Ev.neg (by omega) (Ev.val (by rw [List.take_of_length_le (by omega)]))
/-- Of two lists of one length, which comes first. -/
def cmpL : List Int → List Int → Int
  | x :: xs, y :: ys => if x < y then -1 else if x > y then 1 else cmpL xs ys
  | _, _ => 0
theorem cmpCell (a b : Int) : cmp_Compare_int64.f a b = some (if a < b then -1 else if a > b then 1 else 0) := by
  unfold cmp_Compare_int64.f cmp_isNaN_int64.f
  show (if (a != a) = true then _ else _) = _
  rw [if_neg (by simp)]
  show (if (b != b) = true then _ else _) = _
  rw [if_neg (by simp)]
  by_cases h : a < b
  · rw [if_pos h, if_pos h]
  · rw [if_neg h, if_neg h]
    by_cases h2 : a > b
    · rw [if_pos h2, if_pos h2]
    · rw [if_neg h2, if_neg h2]
theorem compareImpl (a b : List Int) (h : a.length = b.length) (hl : a.length ≤ 1000000) : Ev (fun k => slices_Compare_int64_int64.f k a b) (cmpL a b) := by
  unfold slices_Compare_int64_int64.f
  have main : ∀ (d i : Nat), i + d = a.length → Ev (fun k => slices_Compare_int64_int64.l0 k a b a a.length (i : Int)) (cmpL (a.drop i) (b.drop i)) := by
    intro d
    induction d with
    | zero =>
      intro i hi
      refine Ev.succ ?_
      simp only [slices_Compare_int64_int64.l0]
      refine Ev.neg (by omega) (Ev.neg (by omega) (Ev.val ?_))
      rw [List.drop_eq_nil_of_le (by omega), List.drop_eq_nil_of_le (by omega)]; rfl
    | succ d ih =>
      intro i hi
      refine Ev.succ ?_
      simp only [slices_Compare_int64_int64.l0]
      rw [rd_lt a i (by omega), rd_lt b i (by omega), List.drop_eq_getElem_cons (l := a) (by omega : i < a.length), List.drop_eq_getElem_cons (l := b) (by omega : i < b.length)]
      refine Ev.pos (by omega) (Ev.pos (by omega) (Ev.pos (by omega) (Ev.neg (by omega) (Ev.pos (by omega) (Ev.bnd (cmpCell _ _) ?_)))))
      have e := ih (i + 1) (by omega)
      rw [wrap_id (x := (i : Int) + 1) (by omega) (by omega)]
      show Ev _ (if a[i] < b[i] then -1 else if a[i] > b[i] then 1 else cmpL _ _)
      by_cases c : a[i] < b[i]
      · rw [if_pos c, if_pos c]; exact Ev.neg (by omega) (Ev.now _)
      · rw [if_neg c, if_neg c]
        by_cases c2 : a[i] > b[i]
        · rw [if_pos c2, if_pos c2]; exact Ev.neg (by omega) (Ev.now _)
        · rw [if_neg c2, if_neg c2]; exact Ev.pos rfl e
  exact main a.length 0 (by omega)
theorem cmpL_lt : ∀ (a b : List Int), a.length = b.length → (cmpL a b < 0 ↔ a < b) := by
  intro a
  induction a with
  | nil => intro b h; cases b with
    | nil => simp [cmpL]
    | cons y ys => simp at h
  | cons x xs ih =>
    intro b h
    cases b with
    | nil => simp at h
    | cons y ys =>
      rw [List.cons_lt_cons_iff, ← ih ys (by simpa using h)]
      simp only [cmpL]
      by_cases c : x < y
      · rw [if_pos c]; simp [c]
      · rw [if_neg c]
        by_cases c2 : x > y
        · rw [if_pos c2]; constructor
          · intro h; omega
          · rintro (h | ⟨h, _⟩) <;> omega
        · rw [if_neg c2]
          have : x = y := by omega
          simp [this]
/-- The least of a ring's turns: one of them, and none comes before it. -/
theorem leastImpl {s : Int} {ring : List Int} (hs1 : s ≤ 3) (h : RingOk s ring) (h64 : ring.length ≤ 64) :
    ∃ m, Ev (fun k => impl_LeastTurn.f k ring) (m, true) ∧ (∃ j : Nat, j < ring.length ∧ m = turnL ring (j : Int)) ∧ ∀ j : Nat, j < ring.length → ¬ turnL ring (j : Int) < m := by
  have hp := h.pos
  have main : ∀ (d i : Nat) (m : List Int), i + d = ring.length → (∃ j : Nat, j < ring.length ∧ m = turnL ring (j : Int)) → (∀ j : Nat, j < i → ¬ turnL ring (j : Int) < m) →
      ∃ m', Ev (fun k => impl_LeastTurn.l0 k ring m ring.length (i : Int)) (m', true) ∧ (∃ j : Nat, j < ring.length ∧ m' = turnL ring (j : Int)) ∧ ∀ j : Nat, j < ring.length → ¬ turnL ring (j : Int) < m' := by
    intro d
    induction d with
    | zero =>
      intro i m hi hm hl
      obtain rfl : i = ring.length := by omega
      refine ⟨m, Ev.succ ?_, hm, hl⟩
      simp only [impl_LeastTurn.l0]
      exact Ev.neg (by omega) (Ev.now _)
    | succ d ih =>
      intro i m hi hm hl
      have hml : m.length = ring.length := by obtain ⟨j, _, rfl⟩ := hm; exact turnL_length _ _
      have hc := compareImpl (turnL ring (i : Int)) m (by rw [turnL_length, hml]) (by rw [turnL_length]; omega)
      have hlt := cmpL_lt (turnL ring (i : Int)) m (by rw [turnL_length, hml])
      by_cases c : cmpL (turnL ring (i : Int)) m < 0
      · obtain ⟨m', e, h1, h2⟩ := ih (i + 1) (turnL ring (i : Int)) (by omega) ⟨i, by omega, rfl⟩ (fun j hj => by
          by_cases hji : j < i
          · intro hx; exact hl j hji (List.lt_trans hx (hlt.1 c))
          · obtain rfl : j = i := by omega
            exact List.lt_irrefl _)
        refine ⟨m', Ev.succ ?_, h1, h2⟩
        simp only [impl_LeastTurn.l0]
        refine Ev.pos (by omega) (Ev.bind (turnedImpl ring hp h.le _ (by omega)) (Ev.bind hc (Ev.pos c ?_)))
        rw [wrap_id (x := (i : Int) + 1) (by omega) (by omega)]
        exact e
      · obtain ⟨m', e, h1, h2⟩ := ih (i + 1) m (by omega) hm (fun j hj => by
          by_cases hji : j < i
          · exact hl j hji
          · obtain rfl : j = i := by omega
            exact fun hx => c (hlt.2 hx))
        refine ⟨m', Ev.succ ?_, h1, h2⟩
        simp only [impl_LeastTurn.l0]
        refine Ev.pos (by omega) (Ev.bind (turnedImpl ring hp h.le _ (by omega)) (Ev.bind hc (Ev.neg c ?_)))
        rw [wrap_id (x := (i : Int) + 1) (by omega) (by omega)]
        exact e
  have e0 : turnL ring ((0 : Nat) : Int) = ring := by simp [turnL]
  obtain ⟨m, e, h1, h2⟩ := main ring.length 0 ring (by omega) ⟨0, hp, e0.symm⟩ (fun j hj => by omega)
  refine ⟨m, ?_, h1, h2⟩
  unfold impl_LeastTurn.f
  exact Ev.bind (ring3 hs1 h h64) (Ev.pos rfl (Ev.bnd (cloneI ring h.le) e))
theorem turn_turn (ring : List Int) (h : 0 < ring.length) (a b : Int) : turnL (turnL ring a) b = turnL ring (a + b) := by
  refine List.ext_getElem (by simp only [turnL_length]) fun i h1 h2 => ?_
  rw [turnL_length, turnL_length] at h1
  rw [turnL_get _ (by rw [turnL_length]; exact h) _ _ (by rw [turnL_length]; exact h1), turnL_get ring h _ _ h1, at_turn ring h]
  congr 1; omega
theorem turn_mod (ring : List Int) (h : 0 < ring.length) (a : Int) : turnL ring a = turnL ring (((a % (ring.length : Int)).toNat : Nat) : Int) := by
  have h0 := Int.emod_nonneg a (b := (ring.length : Int)) (by omega)
  unfold turnL
  rw [Int.toNat_of_nonneg h0, Int.emod_emod]
theorem least_alike {ring m m' : List Int} (h : 0 < ring.length) (by_ : Int) (h1 : ∃ j : Nat, j < ring.length ∧ m = turnL ring (j : Int)) (h2 : ∀ j : Nat, j < ring.length → ¬ turnL ring (j : Int) < m)
    (h3 : ∃ j : Nat, j < (turnL ring by_).length ∧ m' = turnL (turnL ring by_) (j : Int)) (h4 : ∀ j : Nat, j < (turnL ring by_).length → ¬ turnL (turnL ring by_) (j : Int) < m') : m = m' := by
  have any : ∀ a : Int, ∃ j : Nat, j < ring.length ∧ turnL ring a = turnL ring (j : Int) := fun a => by
    have h0 := Int.emod_nonneg a (b := (ring.length : Int)) (by omega)
    have h1 := Int.emod_lt_of_pos a (b := (ring.length : Int)) (by omega)
    exact ⟨(a % (ring.length : Int)).toNat, by omega, turn_mod ring h a⟩
  refine List.le_antisymm ?_ ?_
  · show ¬ m' < m
    obtain ⟨j, hj, rfl⟩ := h3
    rw [turn_turn ring h]
    obtain ⟨i, hi, e⟩ := any (by_ + (j : Int))
    rw [e]; exact h2 i hi
  · show ¬ m < m'
    obtain ⟨j, hj, rfl⟩ := h1
    have e : turnL ring (j : Int) = turnL (turnL ring by_) ((j : Int) - by_) := by rw [turn_turn ring h]; congr 1; omega
    rw [e, turn_mod (turnL ring by_) (by rw [turnL_length]; exact h)]
    refine h4 _ ?_
    have h0 := Int.emod_nonneg ((j : Int) - by_) (b := ((turnL ring by_).length : Int)) (by rw [turnL_length]; omega)
    have h1 := Int.emod_lt_of_pos ((j : Int) - by_) (b := ((turnL ring by_).length : Int)) (by rw [turnL_length]; omega)
    omega
theorem r8Before (a b : List Int) (h : a.length = b.length) (hl : a.length ≤ 1000000) (hn : ¬ a < b) : Ev (fun k => laws_r8Before.f k a b) false := by
  unfold laws_r8Before.f
  have main : ∀ (d i : Nat), i + d = a.length → ¬ (a.drop i < b.drop i) → Ev (fun k => laws_r8Before.l0 k a b (i : Int)) false := by
    intro d
    induction d with
    | zero =>
      intro i hi _
      refine Ev.succ ?_
      simp only [laws_r8Before.l0]
      refine Ev.neg (by omega) (Ev.succ ?_)
      simp only [laws_r8Before.j1]
      exact Ev.neg (by simp) (Ev.now _)
    | succ d ih =>
      intro i hi hn
      refine Ev.succ ?_
      simp only [laws_r8Before.l0]
      refine Ev.pos (by omega) (Ev.succ ?_)
      simp only [laws_r8Before.j1]
      rw [List.drop_eq_getElem_cons (l := a) (by omega : i < a.length), List.drop_eq_getElem_cons (l := b) (by omega : i < b.length), List.cons_lt_cons_iff, not_or, not_and] at hn
      rw [rd_lt a i (by omega), rd_lt b i (by omega)]
      refine Ev.pos (by simp; omega) (Ev.pos (by omega) (Ev.pos (by omega) (Ev.pos (by omega) ?_)))
      by_cases c : a[i] = b[i]
      · refine Ev.pos c ?_
        rw [wrap_id (x := (i : Int) + 1) (by omega) (by omega)]
        exact ih (i + 1) (by omega) (hn.2 c)
      · exact Ev.neg c (Ev.val (by simp; omega))
  exact main a.length 0 (by omega) (by simpa using hn)

theorem r8At (l : List Int) (hb : Bytes l) (i n : Int) (hi : 0 ≤ i) (hn : 1 ≤ n) (hn2 : n ≤ 1000) : ∃ x, laws_r8At.f l i n = some x ∧ 0 ≤ x ∧ x < n := by
  unfold laws_r8At.f
  by_cases c : n ≤ 1
  · rw [if_pos c]; exact ⟨_, rfl, by omega, by omega⟩
  · rw [if_neg c]
    by_cases h : i ≥ (l.length : Int)
    · rw [if_pos h]; exact ⟨_, rfl, by omega, by omega⟩
    · have hx := hb _ (rd_mem l i hi (by omega))
      rw [if_neg h, if_pos hi, if_pos (by omega), if_neg (by omega), wrap_id (x := rd l i) (by omega) (by omega), Int.tmod_eq_emod_of_nonneg (by omega)]
      exact ⟨_, rfl, Int.emod_nonneg _ (by omega), Int.emod_lt_of_pos _ (by omega)⟩
theorem r8Long (l m : List Int) : laws_r8Long.f l m = some (decide ((48 : Int) < l.length) || decide ((48 : Int) < m.length)) := by
  unfold laws_r8Long.f
  by_cases h : (48 : Int) < l.length
  · rw [if_pos h, decide_eq_true h]; rfl
  · rw [if_neg h, decide_eq_false h]; rfl

theorem l02Powers (x n : Int) (h0 : 0 ≤ x) (h1 : x ≤ 10) (hn0 : 0 ≤ n) (hn : n ≤ 12) : Ev (fun k => spec_l02Powers.f k x n) (x ^ n.toNat) := by
  unfold spec_l02Powers.f
  obtain ⟨m, rfl⟩ := Int.eq_ofNat_of_zero_le hn0
  have main : ∀ d i : Nat, i + d = m → Ev (fun k => spec_l02Powers.l0 k x (d : Int) (x ^ i)) (x ^ m) := by
    intro d
    induction d with
    | zero =>
      intro i hi
      refine Ev.succ ?_
      simp only [spec_l02Powers.l0]
      exact Ev.neg (by omega) (Ev.val (by rw [show i = m by omega]))
    | succ d ih =>
      intro i hi
      refine Ev.succ ?_
      simp only [spec_l02Powers.l0]
      have hb := pow_bound x (i + 1) h0 h1 (by omega)
      rw [Int.pow_succ] at hb
      refine Ev.pos (by omega) ?_
      rw [wrap_id (x := ((d + 1 : Nat) : Int) - 1) (by omega) (by omega), wrap_id (x := x ^ i * x) (by omega) (by omega), ← Int.pow_succ, show ((d + 1 : Nat) : Int) - 1 = (d : Int) by omega]
      exact ih (i + 1) (by omega)
  have := main m 0 (by omega)
  rw [Int.pow_zero] at this
  exact this

theorem drawSides (l : List Int) (hb : Bytes l) (hl : l.length ≤ 140737488351232) (s : Int) (hs0 : 2 ≤ s) (hs1 : s ≤ 3) (p q : Int) : ∀ (d : Nat) (at_ sd : Int) (acc : List Int), 0 ≤ at_ → at_ + d ≤ 1000000 → acc.length + d ≤ 1000000 →
    ∃ xs a t, Ev (fun k => spec_l02DrawSides.l0 k s d l at_ sd p q acc) (p, q, acc ++ xs, a, t) ∧ xs.length = d ∧ ∀ x ∈ xs, 0 ≤ x ∧ x ≤ s - 1 := by
  intro d
  induction d with
  | zero =>
    intro at_ sd acc h0 h1 h2
    refine ⟨[], at_, sd, Ev.succ ?_, rfl, by simp⟩
    simp only [spec_l02DrawSides.l0]
    exact Ev.neg (by simp) (Ev.val (by simp))
  | succ d ih =>
    intro at_ sd acc h0 h1 h2
    obtain ⟨x, a, t, e, hx0, hx1, ha0, ha1⟩ := srcPick l hb hl at_ sd h0 (by omega) s (by omega) (by omega)
    obtain ⟨xs, a2, t2, h, hlen, hxs⟩ := ih a t (acc ++ [x]) ha0 (by push_cast at h1; omega) (by rw [List.length_append, List.length_singleton]; omega)
    refine ⟨x :: xs, a2, t2, Ev.succ ?_, by simp [hlen], ?_⟩
    · simp only [spec_l02DrawSides.l0]
      have ed : ((d + 1 : Nat) : Int) - 1 = (d : Int) := by omega
      rw [wrap_id (x := ((d + 1 : Nat) : Int) - 1) (by omega) (by omega), ed]
      refine Ev.pos (by omega) (Ev.bnd e (Ev.pos (by omega) ?_))
      rw [List.append_assoc, List.singleton_append] at h
      exact h
    · intro y hy
      rcases List.mem_cons.1 hy with rfl | hy
      · omega
      · exact hxs y hy
theorem drawRule (l : List Int) (hb : Bytes l) (hl : l.length ≤ 140737488351232) (s r : Int) (hs0 : 2 ≤ s) (hs1 : s ≤ 3) (h0 : 0 ≤ r) (h1 : r ≤ 2) : ∃ t, Ev (fun k => spec_R8Rule.f k l s r) (s, r, t) ∧ RuleOk s r t := by
  have hp := pow_bound s (2 * r + 1).toNat (by omega) (by omega) (by omega)
  have hsm : s ^ (2 * r + 1).toNat ≤ 1000 := by
    obtain rfl | rfl : s = 2 ∨ s = 3 := by omega
    · obtain rfl | rfl | rfl : r = 0 ∨ r = 1 ∨ r = 2 := by omega
      all_goals decide
    · obtain rfl | rfl | rfl : r = 0 ∨ r = 1 ∨ r = 2 := by omega
      all_goals decide
  obtain ⟨N, hN⟩ := Int.eq_ofNat_of_zero_le hp.1
  obtain ⟨xs, a, t, e, hlen, hxs⟩ := drawSides l hb hl s hs0 hs1 s r N 0 0 [] (by omega) (by omega) (by simp; omega)
  refine ⟨xs, ?_, hs0, hs1, h0, h1, by omega, hxs⟩
  unfold spec_R8Rule.f spec_l02DrawSides.f
  rw [wrap_id (x := 2 * r) (by omega) (by omega), wrap_id (x := 2 * r + 1) (by omega) (by omega)]
  refine Ev.bnd rfl (Ev.bind (Ev.bind (l02Powers s (2 * r + 1) (by omega) (by omega) (by omega) (by omega)) (by rw [hN]; exact e)) (Ev.val (by simp)))
theorem drawCells (l : List Int) (hb : Bytes l) (hl : l.length ≤ 140737488351232) (s : Int) (hs0 : 2 ≤ s) (hs1 : s ≤ 3) : ∀ (d : Nat) (at_ sd : Int) (acc : List Int), 0 ≤ at_ → at_ + d ≤ 1000000 → acc.length + d ≤ 1000000 →
    ∃ xs a t, Ev (fun k => spec_l02DrawCells.l0 k s d acc l at_ sd) (acc ++ xs, a, t) ∧ xs.length = d ∧ ∀ x ∈ xs, 0 ≤ x ∧ x ≤ s - 1 := by
  intro d
  induction d with
  | zero =>
    intro at_ sd acc h0 h1 h2
    refine ⟨[], at_, sd, Ev.succ ?_, rfl, by simp⟩
    simp only [spec_l02DrawCells.l0]
    exact Ev.neg (by simp) (Ev.val (by simp))
  | succ d ih =>
    intro at_ sd acc h0 h1 h2
    obtain ⟨x, a, t, e, hx0, hx1, ha0, ha1⟩ := srcPick l hb hl at_ sd h0 (by omega) s (by omega) (by omega)
    obtain ⟨xs, a2, t2, h, hlen, hxs⟩ := ih a t (acc ++ [x]) ha0 (by push_cast at h1; omega) (by rw [List.length_append, List.length_singleton]; omega)
    refine ⟨x :: xs, a2, t2, Ev.succ ?_, by simp [hlen], ?_⟩
    · simp only [spec_l02DrawCells.l0]
      have ed : ((d + 1 : Nat) : Int) - 1 = (d : Int) := by omega
      have m1 : spec_l00Min.f 3 s = some s := by unfold spec_l00Min.f; by_cases c : 3 < s
                                                 · omega
                                                 · rw [if_neg c]
      have m2 : spec_l00Max.f 1 s = some s := by unfold spec_l00Max.f; rw [if_neg (by omega)]
      rw [wrap_id (x := ((d + 1 : Nat) : Int) - 1) (by omega) (by omega), ed]
      refine Ev.pos (by omega) (Ev.bnd m1 (Ev.bnd m2 (Ev.bnd e (Ev.pos (by omega) ?_))))
      rw [List.append_assoc, List.singleton_append] at h
      exact h
    · intro y hy
      rcases List.mem_cons.1 hy with rfl | hy
      · omega
      · exact hxs y hy
theorem drawRing8 (l : List Int) (hb : Bytes l) (hl : l.length ≤ 140737488351232) (s : Int) (hs0 : 2 ≤ s) (hs1 : s ≤ 3) (n : Nat) (hn0 : 0 < n) (hn : n ≤ 1000) : ∃ ring, Ev (fun k => spec_R8Ring.f k l s n) ring ∧ RingOk s ring ∧ ring.length = n := by
  obtain ⟨xs, a, t, e, hlen, hxs⟩ := drawCells l hb hl s hs0 hs1 n 0 0 [] (by omega) (by omega) (by simp; omega)
  refine ⟨xs, ?_, ⟨by omega, by omega, hxs⟩, hlen⟩
  unfold spec_R8Ring.f spec_l02DrawCells.f
  exact Ev.bnd rfl (Ev.bind e (Ev.val (by simp)))
theorem mir_mir {s r : Int} {t : List Int} (hr : RuleOk s r t) : mirT s r (mirT s r t) = t := by
  have hm := mir_ok hr
  have hp := (pow_bound s (2 * r + 1).toNat (by have := hr.s0; omega) (by have := hr.s1; omega) (by have := hr.r1; omega)).1
  have hn := hr.n
  refine List.ext_getElem (by unfold mirT; rw [madeT_length]; omega) fun i h1 h2 => ?_
  simp only [mirT, madeT, List.getElem_map, List.getElem_range]
  have hd := digs_ok s hr.s0 hr.s1 (2 * r + 1).toNat (i : Int)
  have e := madeT_rd hr.s0 hr.s1 (c := (2 * r + 1).toNat) (ds := (digs s (2 * r + 1).toNat (i : Int)).reverse) (fun ds => rd t (numOf s ds.reverse)) (by rw [List.length_reverse, digs_length]) hd.rev
  unfold madeT at e
  rw [e]
  simp only [List.reverse_reverse]
  rw [num_digs s hr.s0 hr.s1 _ _ (by omega) (by omega), rd_lt t i h2]
theorem opp_opp {s r : Int} {t : List Int} (hr : RuleOk s r t) : oppT s r (oppT s r t) = t := by
  have hp := (pow_bound s (2 * r + 1).toNat (by have := hr.s0; omega) (by have := hr.s1; omega) (by have := hr.r1; omega)).1
  have hn := hr.n
  refine List.ext_getElem (by unfold oppT; rw [madeT_length]; omega) fun i h1 h2 => ?_
  simp only [oppT, madeT, List.getElem_map, List.getElem_range]
  have hd := digs_ok s hr.s0 hr.s1 (2 * r + 1).toNat (i : Int)
  have e := madeT_rd hr.s0 hr.s1 (c := (2 * r + 1).toNat) (ds := oppL s (digs s (2 * r + 1).toNat (i : Int))) (fun ds => s - 1 - rd t (numOf s (oppL s ds))) (by simp [oppL, digs_length]) (oppL_ok hd)
  unfold madeT at e
  rw [e]
  simp only [oppL_oppL]
  rw [num_digs s hr.s0 hr.s1 _ _ (by omega) (by omega), rd_lt t i h2]; omega
theorem rowsLoop {s x41 : Int} {t ring : List Int} (hr : RuleOk s x41 t) (hg : RingOk s ring) (h64 : ring.length ≤ 64) {m : Nat} (hm : m ≤ 64) : ∀ (d i : Nat), i + d = m + 1 → 1 ≤ i → Ev (fun k => laws_FnTurned.l0 k (m : Int) ((List.range (m + 1)).map fun i => ringSteps s x41 t ring i) (i : Int) s x41 t) true := by
  intro d
  induction d with
  | zero =>
    intro i hi h1
    refine Ev.succ ?_
    simp only [laws_FnTurned.l0]
    exact Ev.neg (by omega) (Ev.now _)
  | succ d ih =>
    intro i hi h1
    refine Ev.succ ?_
    simp only [laws_FnTurned.l0]
    have hk := ringSteps_ok hr hg (i - 1)
    have rp : rd_L2 ((List.range (m + 1)).map fun i => ringSteps s x41 t ring i) ((i - 1 : Nat) : Int) = ringSteps s x41 t ring (i - 1) := rd_L1_map (m + 1) _ (i - 1) (by omega)
    have ri : rd_L2 ((List.range (m + 1)).map fun i => ringSteps s x41 t ring i) (i : Int) = ringSteps s x41 t ring i := rd_L1_map (m + 1) _ i (by omega)
    rw [wrap_id (x := (i : Int) - 1) (by omega) (by omega), show (i : Int) - 1 = ((i - 1 : Nat) : Int) by omega, rp, ri, wrap_id (x := (i : Int) + 1) (by omega) (by omega)]
    refine Ev.pos (by omega) (Ev.pos (by omega) (Ev.pos (by simp; omega) (Ev.bind (stepRing hr hk (by rw [ringSteps_length]; exact h64)) (Ev.pos rfl (Ev.pos (by omega) (Ev.pos (by simp; omega) (Ev.bind (r8Same _ _ (by rw [ringStep_length, ringSteps_length]; exact hg.le) ?_) (Ev.pos rfl ?_))))))))
    · obtain ⟨q, rfl⟩ : ∃ q, i = q + 1 := ⟨i - 1, by omega⟩
      rfl
    · exact ih (i + 1) (by omega) (by omega)
theorem FnTurned : laws_FnTurned.Pure := by
  intro l0 l1 p1 p2 p3 p4 p5 p6
  have b0 := Bytes.of p3
  have b1 := Bytes.of p6
  suffices h : Ev (fun k => laws_FnTurned.f k l0 l1) true by
    obtain ⟨K, h⟩ := h
    exact ⟨K, h K (Nat.le_refl _)⟩
  unfold laws_FnTurned.f
  refine Ev.bnd (r8Long l0 l1) ?_
  by_cases c : (decide ((48 : Int) < l0.length) || decide ((48 : Int) < l1.length)) = true
  · exact Ev.pos c (Ev.now _)
  refine Ev.neg c ?_
  obtain ⟨x40, e40, y40, z40⟩ := r8At l1 b1 40 2 (by omega) (by omega) (by omega)
  obtain ⟨x41, e41, y41, z41⟩ := r8At l1 b1 41 2 (by omega) (by omega) (by omega)
  obtain ⟨x42, e42, y42, z42⟩ := r8At l1 b1 42 2 (by omega) (by omega) (by omega)
  obtain ⟨x43, e43, y43, z43⟩ := r8At l1 b1 43 12 (by omega) (by omega) (by omega)
  obtain ⟨x44, e44, y44, z44⟩ := r8At l1 b1 44 12 (by omega) (by omega) (by omega)
  obtain ⟨x45, e45, y45, z45⟩ := r8At l1 b1 45 10 (by omega) (by omega) (by omega)
  obtain ⟨x46, e46, y46, z46⟩ := r8At l1 b1 46 8 (by omega) (by omega) (by omega)
  obtain ⟨s, hs⟩ : ∃ s, s = 2 + x40 := ⟨_, rfl⟩
  obtain ⟨n, hn⟩ : ∃ n : Nat, (n : Int) = 1 + x43 := ⟨(1 + x43).toNat, by omega⟩
  obtain ⟨m, hm⟩ : ∃ m : Nat, (m : Int) = x45 := ⟨x45.toNat, by omega⟩
  have hm1 : m ≤ 64 := by omega
  have hm2 : m ≤ 1000 := by omega
  have hx4 : 1 ≤ 1 + x46 := by omega
  have hx5 : 1 + x46 ≤ 8 := by omega
  have hs0 : 2 ≤ s := by omega
  have hs1 : s ≤ 3 := by omega
  obtain ⟨t, et, hr⟩ := drawRule l0 b0 (by omega) s x41 hs0 hs1 y41 (by omega)
  obtain ⟨u, eu, hq⟩ := drawRule l1 b1 (by omega) s x42 hs0 hs1 y42 (by omega)
  obtain ⟨ring, eg, hg, hgl⟩ := drawRing8 l1 b1 (by omega) s hs0 hs1 n (by omega) (by omega)
  have w1 : wrap64 (2 + x40) = s := by rw [wrap_id (by omega) (by omega)]; omega
  have w2 : wrap64 (1 + x43) = (n : Int) := by rw [wrap_id (by omega) (by omega)]; omega
  have w3 : wrap64 (1 + x46) = 1 + x46 := wrap_id (by omega) (by omega)
  have w4 : wrap64 ((m : Int) + 1) = (m : Int) + 1 := wrap_id (by omega) (by omega)
  have h64 : ring.length ≤ 64 := by omega
  have hgp := hg.pos
  have hS := ringStep_ok hr hg
  have hS64 : (ringStep s x41 t ring).length ≤ 64 := by rw [ringStep_length]; exact h64
  have hT := turnL_ok hg x44
  have hT64 : (turnL ring x44).length ≤ 64 := by rw [turnL_length]; exact h64
  have hR : RingOk s ring.reverse := ⟨by simpa using hg.pos, by simpa using hg.le, fun x hx => hg.all x (by simpa using hx)⟩
  have hR64 : ring.reverse.length ≤ 64 := by rw [List.length_reverse]; exact h64
  have hO := oppL_ring hg
  have hO64 : (oppL s ring).length ≤ 64 := by simpa [oppL] using h64
  have hx1 : x41 ≤ 1 := by omega
  have hx2 : x41 + x42 ≤ 2 := by omega
  have hx3 : x44 ≤ 64 := by omega
  have hM := mir_ok hr
  have hP := opp_ok hr
  have hW := wid_ok hr (by omega)
  have hJ := joi_ok hr hq (by omega)
  refine Ev.bnd e40 (Ev.bnd e41 ?_)
  rw [w1]
  refine Ev.bind et (Ev.bnd e42 (Ev.bind eu (Ev.bnd e43 ?_)))
  rw [w2]
  refine Ev.bind eg (Ev.bnd e44 ?_)
  refine Ev.bind (stepRing hr hg h64) (Ev.bind (turnRing hs1 hg h64 x44 y44 hx3) (Ev.bind (stepRing hr hT hT64) (Ev.bind (turnRing hs1 hS hS64 x44 y44 hx3) ?_)))
  refine Ev.bind (mirrorImpl hr hx1) (Ev.bind (r8Back ring hg.le) (Ev.bind (stepRing hM hR hR64) ?_))
  refine Ev.bind (oppositeImpl hr) (Ev.bind (r8Opposite hs0 hs1 ring hg) (Ev.bind (stepRing hP hO hO64) ?_))
  refine Ev.bind (widerImpl hr hx1) (Ev.bind (stepRing hW hg h64) (Ev.bind (joinImpl hr hq hx2) (Ev.bind (stepRing hJ hg h64) (Ev.bind (stepRing hq hS hS64) ?_))))
  refine Ev.pos rfl (Ev.pos rfl (Ev.pos rfl (Ev.pos rfl (Ev.pos rfl (Ev.pos rfl (Ev.pos rfl (Ev.pos rfl (Ev.pos rfl (Ev.pos rfl (Ev.pos rfl (Ev.pos rfl (Ev.pos rfl ?_))))))))))))
  have hMs := mirror_step hr hg
  have hOs := opposite_step hr hg
  refine Ev.bind (validImpl hJ) (Ev.pos rfl (Ev.bind (ringS hs0 hs1 hS hS64) (Ev.pos rfl ?_)))
  refine Ev.bind (r8Same _ _ (by rw [ringStep_length]; exact hT.le) (turn_step hg x44)) (Ev.pos rfl ?_)
  refine Ev.bind (r8Back _ (by rw [ringStep_length]; exact hR.le)) (Ev.bind (r8Same _ _ (by simp only [List.length_reverse, ringStep_length]; exact hg.le) (by show (ringStep s x41 (mirT s x41 t) ring.reverse).reverse = _; unfold mirT; rw [hMs, List.reverse_reverse])) (Ev.pos rfl ?_))
  have hOk := ringStep_ok hP hO
  refine Ev.bind (r8Opposite hs0 hs1 _ hOk) (Ev.bind (r8Same _ _ (by simp only [oppL, List.length_map, ringStep_length]; exact hg.le) (by show oppL s (ringStep s x41 (oppT s x41 t) (oppL s ring)) = _; unfold oppT; rw [hOs, oppL_oppL])) (Ev.pos rfl ?_))
  refine Ev.bind (r8Same _ _ (by rw [ringStep_length]; exact hg.le) (wider_step hr hg)) (Ev.pos rfl ?_)
  refine Ev.bind (r8Same _ _ (by rw [ringStep_length]; exact hg.le) (join_step hr hq hg)) (Ev.succ ?_)
  simp only [laws_FnTurned.j0]
  obtain ⟨a, ea, a1, a2⟩ := leastImpl hs1 hg h64
  obtain ⟨b, eb, b1', b2⟩ := leastImpl hs1 hT hT64
  have hab : a = b := least_alike hgp x44 a1 a2 b1' b2
  have hal : a.length = ring.length := by obtain ⟨j, _, rfl⟩ := a1; exact turnL_length _ _
  have e0 : turnL ring ((0 : Nat) : Int) = ring := by simp [turnL]
  have hna : ¬ ring < a := by have := a2 0 hgp; rwa [e0] at this
  refine Ev.neg (by simp) (Ev.bind (mirrorImpl hM hx1) (Ev.bind (oppositeImpl hP) (Ev.bind ea (Ev.bind eb (Ev.bnd e45 ?_)))))
  rw [← hm]
  have hsh := sharedImpl hr hg h64 hT hT64 m hm2 (1 + x46) hx4 hx5
  rw [← w3] at hsh
  clear w1 w2 w3
  refine Ev.bind (rowsImpl hr hg h64 m hm1) ?_
  refine Ev.bind (runImpl hr hg h64 m hm2) ?_
  refine Ev.bnd e46 ?_
  refine Ev.bind hsh ?_
  refine Ev.pos rfl (Ev.pos rfl (Ev.pos rfl (Ev.pos rfl (Ev.pos rfl (Ev.pos rfl (Ev.pos rfl ?_))))))
  refine Ev.bind (sameImpl s x41 _ _ (by rw [mir_mir hr]; exact hr.small) (mir_mir hr)) (Ev.pos rfl ?_)
  refine Ev.bind (sameImpl s x41 _ _ (by rw [opp_opp hr]; exact hr.small) (opp_opp hr)) (Ev.pos rfl ?_)
  refine Ev.bind (r8Same a b (by rw [hal]; exact hg.le) hab) (Ev.pos rfl ?_)
  refine Ev.bind (r8Before ring a hal.symm hg.le hna) (Ev.neg (by simp) ?_)
  have r0 : rd_L2 ((List.range (m + 1)).map fun i => ringSteps s x41 t ring i) 0 = ring := rd_L1_map (m + 1) _ 0 (Nat.succ_pos m)
  have rm : rd_L2 ((List.range (m + 1)).map fun i => ringSteps s x41 t ring i) (m : Int) = ringSteps s x41 t ring m := rd_L1_map (m + 1) _ m (Nat.lt_succ_self m)
  have hlen : (((List.range (m + 1)).map fun i => ringSteps s x41 t ring i).length : Int) = (m : Int) + 1 := by simp
  have hl1 := hlen.trans w4.symm
  clear w4
  have hl2 : (0 : Int) < (((List.range (m + 1)).map fun i => ringSteps s x41 t ring i).length : Int) := by rw [hlen]; exact Int.lt_add_one_of_le (Int.natCast_nonneg m)
  refine Ev.pos hl1 (Ev.pos hl2 ?_)
  clear hl1 hl2
  simp only [r0]
  refine Ev.bind (r8Same ring ring hg.le rfl) (Ev.pos rfl (Ev.pos (Int.natCast_nonneg m) (Ev.pos (by rw [hlen]; exact Int.lt_add_one_of_le (Int.le_refl _)) ?_)))
  simp only [rm]
  refine Ev.bind (r8Same _ _ (by rw [ringSteps_length]; exact hg.le) rfl) (Ev.pos rfl (Ev.pos (by simp) (Ev.pos (by simp) (Ev.bind (r8Same _ _ (by show (ringSteps s x41 t ring m).length ≤ _; rw [ringSteps_length]; exact hg.le) rfl) (Ev.succ ?_)))))
  simp only [laws_FnTurned.j1]
  refine Ev.neg (by simp) ?_
  exact rowsLoop hr hg h64 hm1 m 1 (Nat.add_comm 1 m) (Nat.le_refl 1)

end Go.Proofs.Ytbmffanhebjlgaa.Pure

-- Written by a program of this session (its own print).
import Derived.Test.YtnkmojmcdcjkmaaDoorPFnExactRecoverJournalx0
import Derived.Test.YtnkmojmcdcjkmaaDoorPFnExactRecoverJournalx1
namespace Go.Proofs.YtnkmojmcdcjkmaaDoor.PFnExactRecoverJournal
open Go.RowKit Go.Proofs.YtnkmojmcdcjkmaaDoorW.PrintWords Go.Proofs.YtnkmojmcdcjkmaaDoorW.PrintLast Go.Proofs.YtnkmojmcdcjkmaaDoorW.PrintMore
attribute [local go_sem] max2_int min2_int max_two min_two max_three min_three max_four min_four   -- for this text's walks alone
set_option linter.unusedVariables false
set_option linter.unusedSimpArgs false

/-! ### laws_heldStringS: function 22 -/
def laws_heldStringS.l0 : Nat → List ByteArray → Int → Int → Option (Int)
  | 0, _, _, _ => none
  | k + 1, x0, x1, x5 => if x5 < (x0.length : Int) then (if 0 ≤ x5 then ((laws_markText.f k x1).bind fun t187 => (if (rdOf ByteArray.empty x0 x5).toList = t187.toList then (laws_heldStringS.l0 k x0 (wrap64 (x1 + 1)) (wrap64 (x5 + 1))) else (some (-1)))) else (none)) else (some x1)
def laws_heldStringS.f (k : Nat) (l0 : List ByteArray) (a1 : Int) : Option (Int) := laws_heldStringS.l0 k l0 a1 0
theorem laws_heldStringS.mono_l : ∀ k, (∀ y0 y1 y2, LeO (laws_heldStringS.l0 k y0 y1 y2) (laws_heldStringS.l0 (k + 1) y0 y1 y2))
  | 0 => fun _ _ _ r h => by simp [laws_heldStringS.l0] at h
  | k + 1 => by
    have ih0 := laws_heldStringS.mono_l k
    · intro y0 y1 y2
      unfold laws_heldStringS.l0
      repeat' first
      | (with_reducible exact ih0 _ _ _)
      | (with_reducible exact laws_markText.mono _ _)
      | (with_reducible exact LeO.refl _)
      | (with_reducible exact LeO.none _)
      | (with_reducible refine LeO.ite ?_ ?_)
      | (with_reducible refine LeO.bind ?_ (fun _ => ?_))
      | exact ih0 _ _ _
      | exact laws_markText.mono _ _
      | exact LeO.none _
      | refine LeO.ite ?_ ?_
      | refine LeO.bind ?_ (fun _ => ?_)
theorem laws_heldStringS.mono : ∀ a0 a1 k, LeO (laws_heldStringS.f k a0 a1) (laws_heldStringS.f (k + 1) a0 a1) := by
 intro a0 a1 k; have ih0 := laws_heldStringS.mono_l k; unfold laws_heldStringS.f; repeat' first
  | (with_reducible exact ih0 _ _ _)
  | (with_reducible exact laws_markText.mono _ _)
  | (with_reducible exact LeO.refl _)
  | (with_reducible exact LeO.none _)
  | (with_reducible refine LeO.ite ?_ ?_)
  | (with_reducible refine LeO.bind ?_ (fun _ => ?_))
  | exact ih0 _ _ _
  | exact laws_markText.mono _ _
  | exact LeO.none _
  | refine LeO.ite ?_ ?_
  | refine LeO.bind ?_ (fun _ => ?_)
set_option maxHeartbeats 8000000 in
set_option maxRecDepth 100000 in
theorem laws_heldStringS.calls (k : Nat) (A0 : Option Addr) (c0 : Nat) (l0 : List ByteArray) (a1 : Int) (r : Int) (w : World) (hr0 : Kd.C Kd.string w A0 l0.length l0) (hc0 : l0.length ≤ c0) (h : laws_heldStringS.f k l0 a1 = some r) :
    Calls Tryd.prog 22 #[.slice A0 l0.length c0, .int .i64 a1] w fun e w' => e = .returned (.int .i64 r) ∧ Below w.heap.size w w' := by
 have HR0 := Aside0.mk hr0; have HC0 := Aside0.mk hc0; clear hr0 hc0; have HB := Aside0.mk (Below.refl w.heap.size w); have H : (laws_heldStringS.l0 k l0 a1 0) = some r := h; clear h; have H' := Aside0.mk H; clear H; go_enter Tryd.func22, Tryd.ntmps22; go_wp2; go_loopg [1, 5] k (fun kq v1 v5 w' => ∃ (x1_1 : Int) (x5_1 : Int), v1 = .int .i64 x1_1 ∧ v5 = .int .i64 x5_1 ∧ Aside0 (laws_heldStringS.l0 kq l0 x1_1 x5_1 = some r) ∧ Aside0 (kq ≤ k) ∧ Aside0 (Below w.heap.size w w')); case atStart => exact ⟨(a1), (0), (by first | rfl | (simp; done) | (simp [i64_w, i32_w]; done) | (simp [*]; done) | (simp [*, i64_w, i32_w]; done)), (by first | rfl | (simp; done) | (simp [i64_w, i32_w]; done) | (simp [*]; done) | (simp [*, i64_w, i32_w]; done)), H', ⟨Nat.le_refl _⟩, ⟨bk_ HB.out⟩⟩
 case round =>
  clear H'; (try clear c2); (try clear p2); obtain ⟨x1_1, x5_1, rfl, rfl, HA, HK1, HB⟩ := hrel; cases gk with
  | zero => exact absurd HA.out (by simp [laws_heldStringS.l0])
  | succ k1 =>
   have H := HA.out; clear HA; simp only [laws_heldStringS.l0] at H; by_cases c3 : x5_1 < (l0.length : Int)
   · rw [if_pos c3] at H; have c3b0 : decide (x5_1 < (l0.length : Int)) = true := decide_eq_true c3; clear c3; by_cases c4 : 0 ≤ x5_1
     · rw [if_pos c4] at H; have c4b0 : decide (0 ≤ x5_1) = true := decide_eq_true c4; clear c4; replace H := Option.bind_eq_some_iff.mp H; obtain ⟨t187, A50, H⟩ := H; replace H : (if (rdOf ByteArray.empty l0 x5_1).toList = t187.toList then (laws_heldStringS.l0 k1 l0 (wrap64 (x1_1 + 1)) (wrap64 (x5_1 + 1))) else (some (-1))) = some r := H; have A5 := Aside0.mk A50; clear A50; by_cases c6 : (rdOf ByteArray.empty l0 x5_1).toList = t187.toList
       · rw [if_pos c6] at H; have c6b0 : ((rdOf ByteArray.empty l0 x5_1).toList == t187.toList) = true := beq_iff_eq.mpr c6; have c6b1 : ((rdOf ByteArray.empty l0 x5_1).toList != t187.toList) = false := bne_eq_false_iff_eq.mpr c6; clear c6; have H' := Aside0.mk H; clear H; (try go_wp2); have n0_ := Aside0.mk (below_drew1 HB.out); clear HB; have HB := n0_; clear n0_; have p186 : 0 ≤ (x5_1 : Int) := of_decide_eq_true (by first | (with_reducible assumption) | assumption); have q186 : x5_1 < (l0.length : Int) := of_decide_eq_true (by first | (with_reducible assumption) | assumption); obtain ⟨ad186, e186, hx186_0⟩ := Kd.at_string HR0.out x5_1 p186 q186; have hw186_0 := hx186_0; cases e186
         replace hx186_0 := (HB.out.cell (World.block_lt_of_cell? w _ hx186_0)).trans hx186_0; replace p186 := eq_true p186; replace q186 := eq_true q186; refine start_ (n := 7) (S := fun w' => w'.cell? (ad186.add (x5_1).toNat) = some (.string (rdOf ByteArray.empty l0 x5_1))) (ds := []) #[false, false, false, false, false, false, false] (by kernel_rfl) rfl rfl (((HB.out.cell (World.block_lt_of_cell? w _ hw186_0)).trans hw186_0)) (fun hHeld => ?_); generalize wr.drew = w7 at HB hx186_0 hHeld ⊢; refine pure_ (i := 0) (N := some 12) (v := ?_) (a' := ?_) #[true, false, false, false, false, false, false] rfl rfl (by kernel_rfl) (fun _ _ _ h => h) (Or.inl ⟨by rfl, ?_⟩) ?_ ?_; rotate_left
         · intro w'; go_simp; (with_reducible rfl)
         rotate_left
         · simp only [Act.put, List.setIfInBounds_toArray, List.set_cons_zero, List.set_cons_succ, i64_w, i32_w]; rfl
         refine pure_ (i := 1) (N := some 13) (v := ?_) (a' := ?_) #[true, true, false, false, false, false, false] rfl rfl (by kernel_rfl) (fun _ _ _ h => h) (Or.inl ⟨by rfl, ?_⟩) ?_ ?_; rotate_left
         · intro w'; go_simp; (with_reducible rfl)
         rotate_left
         · simp only [Act.put, List.setIfInBounds_toArray, List.set_cons_zero, List.set_cons_succ, i64_w, i32_w]; rfl
         refine pure_ (i := 2) (N := some 14) (v := ?_) (a' := ?_) #[true, true, true, false, false, false, false] rfl rfl (by kernel_rfl) (fun _ _ _ h => h) (Or.inl ⟨by rfl, ?_⟩) ?_ ?_; rotate_left
         · intro w'; go_simp; (with_reducible rfl)
         rotate_left
         · simp only [Act.put, List.setIfInBounds_toArray, List.set_cons_zero, List.set_cons_succ, i64_w, i32_w]; rfl
         refine pure_ (i := 4) (N := some 16) (v := ?_) (a' := ?_) #[true, true, true, false, true, false, false] rfl rfl (by kernel_rfl) (fun _ _ _ h => h) (Or.inl ⟨by rfl, ?_⟩) ?_ ?_; rotate_left
         · intro w'; go_simp; (with_reducible rfl)
         rotate_left
         · simp only [Act.put, List.setIfInBounds_toArray, List.set_cons_zero, List.set_cons_succ, i64_w, i32_w]; rfl
         refine take_ (i := 3) (N := some 15) (v := ?_) (a' := ?_) #[true, true, true, true, true, false, false] rfl rfl (by kernel_rfl) (fun _ _ _ h => h) (Or.inl ⟨by rfl, ?_⟩) hHeld ?_ ?_; rotate_left
         · intro w' s0; go_simp; (with_reducible rfl)
         rotate_left
         · simp only [Act.put, List.setIfInBounds_toArray, List.set_cons_zero, List.set_cons_succ, i64_w, i32_w]; rfl
         refine one_ (i := 5) (N := some 17) #[true, true, true, true, true, true, false] rfl rfl (by kernel_rfl) (by decide) (fun K hK => ?_); refine gO_ Tryd.func52 #[.int .i64 x1_1] ?_; (with_reducible refine (laws_markText.calls k1 x1_1 t187 _ A5.out).mono ?_); rintro e w8 ⟨rfl, hb⟩; refine ⟨_, rfl, ?_⟩; have n0_ := Aside0.mk (below_step (bk_ HB.out) hb); clear HB; have HB := n0_; clear n0_; (try clear hb); (try clear hb2); (try clear hk); (try clear hi); refine hK.out _ _ (((HB.out.cell (World.block_lt_of_cell? w _ hw186_0)).trans hw186_0)) (fun hHeld => ?_); clear hK K; refine norm_ (a' := ?_) ?_ ?_; rotate_left
         · show Act.put _ (some 17) _ = _
           simp only [Act.put, List.setIfInBounds_toArray, List.set_cons_zero, List.set_cons_succ, i64_w, i32_w]; rfl
         refine pure_ (i := 6) (N := some 18) (v := ?_) (a' := ?_) #[true, true, true, true, true, true, true] rfl rfl (by kernel_rfl) (fun _ _ _ h => h) (Or.inl ⟨by rfl, ?_⟩) ?_ ?_; rotate_left
         · intro w'; go_simp; (with_reducible rfl)
         rotate_left
         · simp only [Act.put, List.setIfInBounds_toArray, List.set_cons_zero, List.set_cons_succ, i64_w, i32_w]; rfl
         refine done_ (by kernel_rfl) ?_; (try go_wp2); go_roundg k1; case measure => have := HK1.out; omega
         case rel => exact ⟨(wrap64 (x1_1 + 1)), (wrap64 (x5_1 + 1)), (by first | rfl | (simp; done) | (simp [i64_w, i32_w]; done) | (simp [*]; done) | (simp [*, i64_w, i32_w]; done)), (by first | rfl | (simp; done) | (simp [i64_w, i32_w]; done) | (simp [*]; done) | (simp [*, i64_w, i32_w]; done)), H', ⟨by have := HK1.out; omega⟩, ⟨bk_ HB.out⟩⟩
       · rw [if_neg c6] at H; have c6b0 : ((rdOf ByteArray.empty l0 x5_1).toList == t187.toList) = false := beq_eq_false_iff_ne.mpr c6; have c6b1 : ((rdOf ByteArray.empty l0 x5_1).toList != t187.toList) = true := bne_iff_ne.mpr c6; obtain rfl := Option.some.inj H; (try go_wp2); have n0_ := Aside0.mk (below_drew1 HB.out); clear HB; have HB := n0_; clear n0_; have p186 : 0 ≤ (x5_1 : Int) := of_decide_eq_true (by first | (with_reducible assumption) | assumption); have q186 : x5_1 < (l0.length : Int) := of_decide_eq_true (by first | (with_reducible assumption) | assumption); obtain ⟨ad186, e186, hx186_0⟩ := Kd.at_string HR0.out x5_1 p186 q186; have hw186_0 := hx186_0; cases e186
         replace hx186_0 := (HB.out.cell (World.block_lt_of_cell? w _ hx186_0)).trans hx186_0; replace p186 := eq_true p186; replace q186 := eq_true q186; refine start_ (n := 7) (S := fun w' => w'.cell? (ad186.add (x5_1).toNat) = some (.string (rdOf ByteArray.empty l0 x5_1))) (ds := []) #[false, false, false, false, false, false, false] (by kernel_rfl) rfl rfl (((HB.out.cell (World.block_lt_of_cell? w _ hw186_0)).trans hw186_0)) (fun hHeld => ?_); generalize wr.drew = w9 at HB hx186_0 hHeld ⊢; refine pure_ (i := 0) (N := some 12) (v := ?_) (a' := ?_) #[true, false, false, false, false, false, false] rfl rfl (by kernel_rfl) (fun _ _ _ h => h) (Or.inl ⟨by rfl, ?_⟩) ?_ ?_; rotate_left
         · intro w'; go_simp; (with_reducible rfl)
         rotate_left
         · simp only [Act.put, List.setIfInBounds_toArray, List.set_cons_zero, List.set_cons_succ, i64_w, i32_w]; rfl
         refine pure_ (i := 1) (N := some 13) (v := ?_) (a' := ?_) #[true, true, false, false, false, false, false] rfl rfl (by kernel_rfl) (fun _ _ _ h => h) (Or.inl ⟨by rfl, ?_⟩) ?_ ?_; rotate_left
         · intro w'; go_simp; (with_reducible rfl)
         rotate_left
         · simp only [Act.put, List.setIfInBounds_toArray, List.set_cons_zero, List.set_cons_succ, i64_w, i32_w]; rfl
         refine pure_ (i := 2) (N := some 14) (v := ?_) (a' := ?_) #[true, true, true, false, false, false, false] rfl rfl (by kernel_rfl) (fun _ _ _ h => h) (Or.inl ⟨by rfl, ?_⟩) ?_ ?_; rotate_left
         · intro w'; go_simp; (with_reducible rfl)
         rotate_left
         · simp only [Act.put, List.setIfInBounds_toArray, List.set_cons_zero, List.set_cons_succ, i64_w, i32_w]; rfl
         refine pure_ (i := 4) (N := some 16) (v := ?_) (a' := ?_) #[true, true, true, false, true, false, false] rfl rfl (by kernel_rfl) (fun _ _ _ h => h) (Or.inl ⟨by rfl, ?_⟩) ?_ ?_; rotate_left
         · intro w'; go_simp; (with_reducible rfl)
         rotate_left
         · simp only [Act.put, List.setIfInBounds_toArray, List.set_cons_zero, List.set_cons_succ, i64_w, i32_w]; rfl
         refine take_ (i := 3) (N := some 15) (v := ?_) (a' := ?_) #[true, true, true, true, true, false, false] rfl rfl (by kernel_rfl) (fun _ _ _ h => h) (Or.inl ⟨by rfl, ?_⟩) hHeld ?_ ?_; rotate_left
         · intro w' s0; go_simp; (with_reducible rfl)
         rotate_left
         · simp only [Act.put, List.setIfInBounds_toArray, List.set_cons_zero, List.set_cons_succ, i64_w, i32_w]; rfl
         refine one_ (i := 5) (N := some 17) #[true, true, true, true, true, true, false] rfl rfl (by kernel_rfl) (by decide) (fun K hK => ?_); refine gO_ Tryd.func52 #[.int .i64 x1_1] ?_; (with_reducible refine (laws_markText.calls k1 x1_1 t187 _ A5.out).mono ?_); rintro e w10 ⟨rfl, hb⟩; refine ⟨_, rfl, ?_⟩; have n0_ := Aside0.mk (below_step (bk_ HB.out) hb); clear HB; have HB := n0_; clear n0_; (try clear hb); (try clear hb2); (try clear hk); (try clear hi); refine hK.out _ _ (((HB.out.cell (World.block_lt_of_cell? w _ hw186_0)).trans hw186_0)) (fun hHeld => ?_); clear hK K; refine norm_ (a' := ?_) ?_ ?_; rotate_left
         · show Act.put _ (some 17) _ = _
           simp only [Act.put, List.setIfInBounds_toArray, List.set_cons_zero, List.set_cons_succ, i64_w, i32_w]; rfl
         refine pure_ (i := 6) (N := some 18) (v := ?_) (a' := ?_) #[true, true, true, true, true, true, true] rfl rfl (by kernel_rfl) (fun _ _ _ h => h) (Or.inl ⟨by rfl, ?_⟩) ?_ ?_; rotate_left
         · intro w'; go_simp; (with_reducible rfl)
         rotate_left
         · simp only [Act.put, List.setIfInBounds_toArray, List.set_cons_zero, List.set_cons_succ, i64_w, i32_w]; rfl
         refine done_ (by kernel_rfl) ?_; (try go_wp2); go_ret; exact ⟨by first | rfl | (simp [errW_none, errW_some] <;> rfl) | (simp [*, errW_none, errW_some] <;> rfl), bk_ HB.out⟩
     · rw [if_neg c4] at H; exact absurd H (by simp)
   · rw [if_neg c3] at H; have c3b0 : decide (x5_1 < (l0.length : Int)) = false := decide_eq_false c3; clear c3; obtain rfl := Option.some.inj H; go_wp2; go_ret; exact ⟨by first | rfl | (simp [errW_none, errW_some] <;> rfl) | (simp [*, errW_none, errW_some] <;> rfl), bk_ HB.out⟩

/-! ### laws_FnExactRecoverJournal: function 5 -/
mutual
def laws_FnExactRecoverJournal.j0 : Nat → ByteArray → List ByteArray → Int → Bool → List ByteArray → Bool → Option (Bool)
  | 0, _, _, _, _, _, _ => none
  | k + 1, x0, x3, x4, x5, x6, x42 => if x42 = true then (some false) else ((laws_markStringS.f k x6 1).bind fun bt199 => ((laws_heldStringS.f k bt199.2 1).bind fun t201 => (if t201 < 0 then (some false) else (if t201 = bt199.1 then ((impl_RecoverJournal.f k x0).bind fun bt202 => ((laws_eqStringS.f k bt202.1 x3).bind fun t207 => (if t207 = true then (if bt202.2.1 = x4 then (laws_FnExactRecoverJournal.j1 k bt199.2 bt199.1 (bt202.2.2 != x5)) else (laws_FnExactRecoverJournal.j1 k bt199.2 bt199.1 true)) else (laws_FnExactRecoverJournal.j1 k bt199.2 bt199.1 true)))) else (some false)))))
def laws_FnExactRecoverJournal.j1 : Nat → List ByteArray → Int → Bool → Option (Bool)
  | 0, _, _, _ => none
  | k + 1, x6, x9, x73 => if x73 = true then (some false) else ((laws_heldStringS.f k x6 1).bind fun t208 => (if t208 < 0 then (some false) else (if t208 = x9 then (some true) else (some false))))
end
def laws_FnExactRecoverJournal.f (k : Nat) (a0 : ByteArray) : Option (Bool) := if (a0.size : Int) > 1048576 then (some true) else ((spec_RecoverJournal.f k a0).bind fun bt188 => ((impl_RecoverJournal.f k a0).bind fun bt193 => ((laws_eqStringS.f k bt193.1 bt188.1).bind fun t198 => (if t198 = true then (if bt193.2.1 = bt188.2.1 then (laws_FnExactRecoverJournal.j0 k a0 bt188.1 bt188.2.1 bt188.2.2 bt193.1 (bt193.2.2 != bt188.2.2)) else (laws_FnExactRecoverJournal.j0 k a0 bt188.1 bt188.2.1 bt188.2.2 bt193.1 true)) else (laws_FnExactRecoverJournal.j0 k a0 bt188.1 bt188.2.1 bt188.2.2 bt193.1 true)))))
theorem laws_FnExactRecoverJournal.mono_l : ∀ k, (∀ y0 y1 y2 y3 y4 y5, LeO (laws_FnExactRecoverJournal.j0 k y0 y1 y2 y3 y4 y5) (laws_FnExactRecoverJournal.j0 (k + 1) y0 y1 y2 y3 y4 y5)) ∧ (∀ y0 y1 y2, LeO (laws_FnExactRecoverJournal.j1 k y0 y1 y2) (laws_FnExactRecoverJournal.j1 (k + 1) y0 y1 y2))
  | 0 => ⟨fun _ _ _ _ _ _ r h => by simp [laws_FnExactRecoverJournal.j0] at h, fun _ _ _ r h => by simp [laws_FnExactRecoverJournal.j1] at h⟩
  | k + 1 => by
    obtain ⟨ih0, ih1⟩ := laws_FnExactRecoverJournal.mono_l k
    refine ⟨?_, ?_⟩
    · intro y0 y1 y2 y3 y4 y5
      unfold laws_FnExactRecoverJournal.j0
      repeat' first
      | (with_reducible exact ih0 _ _ _ _ _ _)
      | (with_reducible exact ih1 _ _ _)
      | (with_reducible exact impl_RecoverJournal.mono _ _)
      | (with_reducible exact laws_eqStringS.mono _ _ _)
      | (with_reducible exact laws_heldStringS.mono _ _ _)
      | (with_reducible exact laws_markStringS.mono _ _ _)
      | (with_reducible exact spec_RecoverJournal.mono _ _)
      | (with_reducible exact LeO.refl _)
      | (with_reducible exact LeO.none _)
      | (with_reducible refine LeO.ite ?_ ?_)
      | (with_reducible refine LeO.bind ?_ (fun _ => ?_))
      | exact ih0 _ _ _ _ _ _
      | exact ih1 _ _ _
      | exact impl_RecoverJournal.mono _ _
      | exact laws_eqStringS.mono _ _ _
      | exact laws_heldStringS.mono _ _ _
      | exact laws_markStringS.mono _ _ _
      | exact spec_RecoverJournal.mono _ _
      | exact LeO.none _
      | refine LeO.ite ?_ ?_
      | refine LeO.bind ?_ (fun _ => ?_)
    · intro y0 y1 y2
      unfold laws_FnExactRecoverJournal.j1
      repeat' first
      | (with_reducible exact ih0 _ _ _ _ _ _)
      | (with_reducible exact ih1 _ _ _)
      | (with_reducible exact impl_RecoverJournal.mono _ _)
      | (with_reducible exact laws_eqStringS.mono _ _ _)
      | (with_reducible exact laws_heldStringS.mono _ _ _)
      | (with_reducible exact laws_markStringS.mono _ _ _)
      | (with_reducible exact spec_RecoverJournal.mono _ _)
      | (with_reducible exact LeO.refl _)
      | (with_reducible exact LeO.none _)
      | (with_reducible refine LeO.ite ?_ ?_)
      | (with_reducible refine LeO.bind ?_ (fun _ => ?_))
      | exact ih0 _ _ _ _ _ _
      | exact ih1 _ _ _
      | exact impl_RecoverJournal.mono _ _
      | exact laws_eqStringS.mono _ _ _
      | exact laws_heldStringS.mono _ _ _
      | exact laws_markStringS.mono _ _ _
      | exact spec_RecoverJournal.mono _ _
      | exact LeO.none _
      | refine LeO.ite ?_ ?_
      | refine LeO.bind ?_ (fun _ => ?_)
theorem laws_FnExactRecoverJournal.mono : ∀ a0 k, LeO (laws_FnExactRecoverJournal.f k a0) (laws_FnExactRecoverJournal.f (k + 1) a0) := by
 intro a0 k; obtain ⟨ih0, ih1⟩ := laws_FnExactRecoverJournal.mono_l k; unfold laws_FnExactRecoverJournal.f; repeat' first
  | (with_reducible exact ih0 _ _ _ _ _ _)
  | (with_reducible exact ih1 _ _ _)
  | (with_reducible exact impl_RecoverJournal.mono _ _)
  | (with_reducible exact laws_eqStringS.mono _ _ _)
  | (with_reducible exact laws_heldStringS.mono _ _ _)
  | (with_reducible exact laws_markStringS.mono _ _ _)
  | (with_reducible exact spec_RecoverJournal.mono _ _)
  | (with_reducible exact LeO.refl _)
  | (with_reducible exact LeO.none _)
  | (with_reducible refine LeO.ite ?_ ?_)
  | (with_reducible refine LeO.bind ?_ (fun _ => ?_))
  | exact ih0 _ _ _ _ _ _
  | exact ih1 _ _ _
  | exact impl_RecoverJournal.mono _ _
  | exact laws_eqStringS.mono _ _ _
  | exact laws_heldStringS.mono _ _ _
  | exact laws_markStringS.mono _ _ _
  | exact spec_RecoverJournal.mono _ _
  | exact LeO.none _
  | refine LeO.ite ?_ ?_
  | refine LeO.bind ?_ (fun _ => ?_)
set_option maxHeartbeats 8000000 in
set_option maxRecDepth 100000 in
theorem laws_FnExactRecoverJournal.calls (k : Nat) (a0 : ByteArray) (r : Bool) (w : World) (hr_ : r = true) (h : laws_FnExactRecoverJournal.f k a0 = some r) (hM : MaxAt w) :
    Calls Tryd.prog 5 #[.string a0] w fun e w' => e = .returned (.bool r) ∧ Below w.heap.size w w' := by
 have HB := Aside0.mk (Below.refl w.heap.size w); have H : (if (a0.size : Int) > 1048576 then (some true) else ((spec_RecoverJournal.f k a0).bind fun bt188 => ((impl_RecoverJournal.f k a0).bind fun bt193 => ((laws_eqStringS.f k bt193.1 bt188.1).bind fun t198 => (if t198 = true then (if bt193.2.1 = bt188.2.1 then (laws_FnExactRecoverJournal.j0 k a0 bt188.1 bt188.2.1 bt188.2.2 bt193.1 (bt193.2.2 != bt188.2.2)) else (laws_FnExactRecoverJournal.j0 k a0 bt188.1 bt188.2.1 bt188.2.2 bt193.1 true)) else (laws_FnExactRecoverJournal.j0 k a0 bt188.1 bt188.2.1 bt188.2.2 bt193.1 true)))))) = some r := h; clear h; by_cases c2 : (a0.size : Int) > 1048576
 · rw [if_pos c2] at H; have c2b0 : decide (1048576 < (a0.size : Int)) = true := decide_eq_true c2; have c2b1 : decide (1048576 < a0.size) = true := decide_eq_true (by omega); clear c2; obtain rfl := Option.some.inj H; go_enter Tryd.func5, Tryd.ntmps5; go_wp2; go_ret; exact ⟨by first | rfl | (simp [errW_none, errW_some] <;> rfl) | (simp [*, errW_none, errW_some] <;> rfl), bk_ HB.out⟩
 · rw [if_neg c2] at H; have c2b0 : decide (1048576 < (a0.size : Int)) = false := decide_eq_false c2; have c2b1 : decide (1048576 < a0.size) = false := decide_eq_false (by omega); clear c2; replace H := Option.bind_eq_some_iff.mp H; obtain ⟨⟨t188, t189, t190⟩, A30, H⟩ := H; replace H : ((impl_RecoverJournal.f k a0).bind fun bt193 => ((laws_eqStringS.f k bt193.1 t188).bind fun t198 => (if t198 = true then (if bt193.2.1 = t189 then (laws_FnExactRecoverJournal.j0 k a0 t188 t189 t190 bt193.1 (bt193.2.2 != t190)) else (laws_FnExactRecoverJournal.j0 k a0 t188 t189 t190 bt193.1 true)) else (laws_FnExactRecoverJournal.j0 k a0 t188 t189 t190 bt193.1 true)))) = some r := H; have A3 := Aside0.mk A30; clear A30; replace H := Option.bind_eq_some_iff.mp H; obtain ⟨⟨t193, t194, t195⟩, A40, H⟩ := H; replace H : ((laws_eqStringS.f k t193 t188).bind fun t198 => (if t198 = true then (if t194 = t189 then (laws_FnExactRecoverJournal.j0 k a0 t188 t189 t190 t193 (t195 != t190)) else (laws_FnExactRecoverJournal.j0 k a0 t188 t189 t190 t193 true)) else (laws_FnExactRecoverJournal.j0 k a0 t188 t189 t190 t193 true))) = some r := H; have A4 := Aside0.mk A40; clear A40; have HC5 := Aside0.mk H; clear H; go_enter Tryd.func5, Tryd.ntmps5; go_upto_region 5 with (first | ((with_reducible refine gate_callee (f := 19) rfl ?_); refine gL_ (some 19) Tryd.func19 #[.string a0] ?_; (with_reducible refine (spec_RecoverJournal.calls k a0 t188 t189 t190 _ A3.out).mono ?_); rintro e w6 ⟨v191, rfl, ho0, hb⟩; refine ⟨_, rfl, ?_⟩; have n0_ := Aside0.mk (Kd.R_lower ho0 (below_size (bk_ HB.out))); have n1_ := Aside0.mk (below_step (bk_ HB.out) hb); clear HB; have HO192 := n0_; have HB := n1_; clear n0_ n1_; (try clear hb); (try clear hb2); (try clear hk); (try clear hi); (try clear ho0)) | ((with_reducible refine gate_callee (f := 20) rfl ?_); refine gL_ (some 25) Tryd.func20 #[.string a0] ?_; (with_reducible refine (impl_RecoverJournal.calls k a0 t193 t194 t195 _ A4.out ?mx).mono ?_); (case mx => exact MaxAt.below hM (by repeat (first | (with_reducible first | exact HB.out | apply below_alloc | apply pw_below_drewN | apply below_drew1) | refine below_set ?_ (Aside0.out (by assumption))))); rintro e w7 ⟨v196, rfl, ho0, hb⟩; refine ⟨_, rfl, ?_⟩; have n0_ := Aside0.mk (Kd.R_elder' (rk_ HO192.out) (Kd.R_base ho0) hb); have n1_ := Aside0.mk (Kd.R_lower (Kd.R_new' ho0 (Kd.R_lt (rk_ HO192.out))) (below_size (bk_ HB.out))); have n2_ := Aside0.mk (below_step (bk_ HB.out) hb); clear HO192 HB; have HO192 := n0_; have HO197 := n1_; have HB := n2_; clear n0_ n1_ n2_; (try clear hb); (try clear hb2); (try clear hk); (try clear hi); (try clear ho0)))
   (try simp only [Act.put, List.setIfInBounds_toArray, List.set_cons_zero, List.set_cons_succ]); go_cut [42] (fun v42 wc => ∃ (kq : Nat) (x42_4 : Bool), v42 = .bool x42_4 ∧ Aside0 (laws_FnExactRecoverJournal.j0 kq a0 t188 t189 t190 t193 x42_4 = some r) ∧ Aside0 (kq ≤ k) ∧ Aside0 (Kd.R Kd.string 9 wc w.heap.size (fun k_ => some k_ ≠ (v196 : Value).ownBlock) v191 t188) ∧ Aside0 (Kd.R Kd.string 9 wc w.heap.size (fun k_ => some k_ ≠ (v191 : Value).ownBlock) v196 t193) ∧ Aside0 (Below w.heap.size w wc)); case first =>
    have H := HC5.out; clear HC5; replace H := Option.bind_eq_some_iff.mp H; obtain ⟨t198, A80, H⟩ := H; replace H : (if t198 = true then (if t194 = t189 then (laws_FnExactRecoverJournal.j0 k a0 t188 t189 t190 t193 (t195 != t190)) else (laws_FnExactRecoverJournal.j0 k a0 t188 t189 t190 t193 true)) else (laws_FnExactRecoverJournal.j0 k a0 t188 t189 t190 t193 true)) = some r := H; have A8 := Aside0.mk A80; clear A80; by_cases c9 : t198 = true
    · subst c9; have H1 : (if t194 = t189 then (laws_FnExactRecoverJournal.j0 k a0 t188 t189 t190 t193 (t195 != t190)) else (laws_FnExactRecoverJournal.j0 k a0 t188 t189 t190 t193 true)) = some r := by rw [if_pos rfl] at H; exact H
      clear H; have H := H1; clear H1; by_cases c10 : t194 = t189
      · rw [if_pos c10] at H; have c10b0 : (t194 == t189) = true := beq_iff_eq.mpr c10; have c10b1 : (t194 != t189) = false := bne_eq_false_iff_eq.mpr c10; clear c10; (first | rw [c10b0] | (simp only [i64_w, i32_w]; rw [c10b0]) | skip); have H' := Aside0.mk H; clear H; obtain ⟨Ao11, co11, eo11⟩ := Kd.R_slice HO197.out; subst eo11; obtain ⟨Ao12, co12, eo12⟩ := Kd.R_slice HO192.out; subst eo12; go_wp2_with (first | ((with_reducible refine gate_callee (f := 13) rfl ?_); refine gL_ (some 31) Tryd.func13 #[.slice Ao11 t193.length co11, .slice Ao12 t188.length co12] ?_; (with_reducible refine (laws_eqStringS.calls k _ _ t193 _ _ t188 true _ ?side1 ?side2 ?side3 ?side4 A8.out).mono ?_); (case side1 => exact ck_ (Kd.R_reads' HO197.out).2.2); (case side2 => exact (Kd.R_reads' HO197.out).2.1); (case side3 => exact ck_ (Kd.R_reads' HO192.out).2.2); (case side4 => exact (Kd.R_reads' HO192.out).2.1); rintro e w' ⟨rfl, ⟨nd, rfl⟩⟩; refine ⟨_, rfl, ?_⟩)); go_meet; case rel => exact ⟨_, ((t195 != t190)), (by first | rfl | (simp; done) | (simp [i64_w, i32_w]; done) | (simp [*]; done) | (simp [*, i64_w, i32_w]; done)), H', ⟨by first | omega | exact Nat.le_refl _⟩, ⟨by (with_reducible repeat (first | apply Kd.R_alloc | apply Kd.R_drewN | apply Kd.R_drew)); exact Kd.R_mono HO192.out (fun _ hk => by first | exact hk.2 | trivial)⟩, ⟨by (with_reducible repeat (first | apply Kd.R_alloc | apply Kd.R_drewN | apply Kd.R_drew)); exact Kd.R_mono HO197.out (fun _ hk => by first | exact hk.2 | trivial)⟩, ⟨bk_ HB.out⟩⟩
      · rw [if_neg c10] at H; have c10b0 : (t194 == t189) = false := beq_eq_false_iff_ne.mpr c10; have c10b1 : (t194 != t189) = true := bne_iff_ne.mpr c10; (first | rw [c10b0] | (simp only [i64_w, i32_w]; rw [c10b0]) | skip); have H' := Aside0.mk H; clear H; obtain ⟨Ao13, co13, eo13⟩ := Kd.R_slice HO197.out; subst eo13; obtain ⟨Ao14, co14, eo14⟩ := Kd.R_slice HO192.out; subst eo14; go_wp2_with (first | ((with_reducible refine gate_callee (f := 13) rfl ?_); refine gL_ (some 31) Tryd.func13 #[.slice Ao13 t193.length co13, .slice Ao14 t188.length co14] ?_; (with_reducible refine (laws_eqStringS.calls k _ _ t193 _ _ t188 true _ ?side1 ?side2 ?side3 ?side4 A8.out).mono ?_); (case side1 => exact ck_ (Kd.R_reads' HO197.out).2.2); (case side2 => exact (Kd.R_reads' HO197.out).2.1); (case side3 => exact ck_ (Kd.R_reads' HO192.out).2.2); (case side4 => exact (Kd.R_reads' HO192.out).2.1); rintro e w' ⟨rfl, ⟨nd, rfl⟩⟩; refine ⟨_, rfl, ?_⟩)); go_meet; case rel => exact ⟨_, (true), (by first | rfl | (simp; done) | (simp [i64_w, i32_w]; done) | (simp [*]; done) | (simp [*, i64_w, i32_w]; done)), H', ⟨by first | omega | exact Nat.le_refl _⟩, ⟨by (with_reducible repeat (first | apply Kd.R_alloc | apply Kd.R_drewN | apply Kd.R_drew)); exact Kd.R_mono HO192.out (fun _ hk => by first | exact hk.2 | trivial)⟩, ⟨by (with_reducible repeat (first | apply Kd.R_alloc | apply Kd.R_drewN | apply Kd.R_drew)); exact Kd.R_mono HO197.out (fun _ hk => by first | exact hk.2 | trivial)⟩, ⟨bk_ HB.out⟩⟩
    · replace c9 := Bool.eq_false_iff.mpr c9; subst c9; have H1 : (laws_FnExactRecoverJournal.j0 k a0 t188 t189 t190 t193 true) = some r := by rw [if_neg (show ¬ (false = true) by decide)] at H; exact H
      clear H; have H := H1; clear H1; have H' := Aside0.mk H; clear H; obtain ⟨Ao15, co15, eo15⟩ := Kd.R_slice HO197.out; subst eo15; obtain ⟨Ao16, co16, eo16⟩ := Kd.R_slice HO192.out; subst eo16; go_wp2_with (first | ((with_reducible refine gate_callee (f := 13) rfl ?_); refine gL_ (some 31) Tryd.func13 #[.slice Ao15 t193.length co15, .slice Ao16 t188.length co16] ?_; (with_reducible refine (laws_eqStringS.calls k _ _ t193 _ _ t188 false _ ?side1 ?side2 ?side3 ?side4 A8.out).mono ?_); (case side1 => exact ck_ (Kd.R_reads' HO197.out).2.2); (case side2 => exact (Kd.R_reads' HO197.out).2.1); (case side3 => exact ck_ (Kd.R_reads' HO192.out).2.2); (case side4 => exact (Kd.R_reads' HO192.out).2.1); rintro e w' ⟨rfl, ⟨nd, rfl⟩⟩; refine ⟨_, rfl, ?_⟩)); go_meet; case rel => exact ⟨_, (true), (by first | rfl | (simp; done) | (simp [i64_w, i32_w]; done) | (simp [*]; done) | (simp [*, i64_w, i32_w]; done)), H', ⟨by first | omega | exact Nat.le_refl _⟩, ⟨by (with_reducible repeat (first | apply Kd.R_alloc | apply Kd.R_drewN | apply Kd.R_drew)); exact Kd.R_mono HO192.out (fun _ hk => by first | exact hk.2 | trivial)⟩, ⟨by (with_reducible repeat (first | apply Kd.R_alloc | apply Kd.R_drewN | apply Kd.R_drew)); exact Kd.R_mono HO197.out (fun _ hk => by first | exact hk.2 | trivial)⟩, ⟨bk_ HB.out⟩⟩
   case rest =>
    clear HC5; (try clear c1); (try clear c2); (try clear c2b0); (try clear c2b1); (try clear p2); (try clear c5); (try clear c9); (try clear c10); (try clear c10b0); (try clear c10b1); (try clear c13); obtain ⟨kq, x42_4, rfl, HA, HJ4, HO_3, HO_6, HB⟩ := hcut; cases kq with
    | zero => exact absurd HA.out (by simp [laws_FnExactRecoverJournal.j0])
    | succ kj4 =>
     have H := HA.out; clear HA; simp only [laws_FnExactRecoverJournal.j0] at H; by_cases c17 : x42_4 = true
     · subst c17; have H1 : (some false) = some r := by rw [if_pos rfl] at H; exact H
       clear H; have H := H1; clear H1; exact absurd (Option.some.inj H) (by rw [hr_]; decide)
     · replace c17 := Bool.eq_false_iff.mpr c17; subst c17; have H1 : ((laws_markStringS.f kj4 t193 1).bind fun bt199 => ((laws_heldStringS.f kj4 bt199.2 1).bind fun t201 => (if t201 < 0 then (some false) else (if t201 = bt199.1 then ((impl_RecoverJournal.f kj4 a0).bind fun bt202 => ((laws_eqStringS.f kj4 bt202.1 t188).bind fun t207 => (if t207 = true then (if bt202.2.1 = t189 then (laws_FnExactRecoverJournal.j1 kj4 bt199.2 bt199.1 (bt202.2.2 != t190)) else (laws_FnExactRecoverJournal.j1 kj4 bt199.2 bt199.1 true)) else (laws_FnExactRecoverJournal.j1 kj4 bt199.2 bt199.1 true)))) else (some false))))) = some r := by rw [if_neg (show ¬ (false = true) by decide)] at H; exact H
       clear H; have H := H1; clear H1; replace H := Option.bind_eq_some_iff.mp H; obtain ⟨⟨t199, t200⟩, A180, H⟩ := H; replace H : ((laws_heldStringS.f kj4 t200 1).bind fun t201 => (if t201 < 0 then (some false) else (if t201 = t199 then ((impl_RecoverJournal.f kj4 a0).bind fun bt202 => ((laws_eqStringS.f kj4 bt202.1 t188).bind fun t207 => (if t207 = true then (if bt202.2.1 = t189 then (laws_FnExactRecoverJournal.j1 kj4 t200 t199 (bt202.2.2 != t190)) else (laws_FnExactRecoverJournal.j1 kj4 t200 t199 true)) else (laws_FnExactRecoverJournal.j1 kj4 t200 t199 true)))) else (some false)))) = some r := H; have A18 := Aside0.mk A180; clear A180; replace H := Option.bind_eq_some_iff.mp H; obtain ⟨t201, A190, H⟩ := H; replace H : (if t201 < 0 then (some false) else (if t201 = t199 then ((impl_RecoverJournal.f kj4 a0).bind fun bt202 => ((laws_eqStringS.f kj4 bt202.1 t188).bind fun t207 => (if t207 = true then (if bt202.2.1 = t189 then (laws_FnExactRecoverJournal.j1 kj4 t200 t199 (bt202.2.2 != t190)) else (laws_FnExactRecoverJournal.j1 kj4 t200 t199 true)) else (laws_FnExactRecoverJournal.j1 kj4 t200 t199 true)))) else (some false))) = some r := H; have A19 := Aside0.mk A190; clear A190; by_cases c20 : t201 < 0
       · rw [if_pos c20] at H; have c20b0 : decide (t201 < 0) = true := decide_eq_true c20; clear c20; exact absurd (Option.some.inj H) (by rw [hr_]; decide)
       · rw [if_neg c20] at H; have c20b0 : decide (t201 < 0) = false := decide_eq_false c20; clear c20; by_cases c21 : t201 = t199
         · rw [if_pos c21] at H; have c21b0 : (t201 == t199) = true := beq_iff_eq.mpr c21; have c21b1 : (t201 != t199) = false := bne_eq_false_iff_eq.mpr c21; clear c21; replace H := Option.bind_eq_some_iff.mp H; obtain ⟨⟨t202, t203, t204⟩, A220, H⟩ := H; replace H : ((laws_eqStringS.f kj4 t202 t188).bind fun t207 => (if t207 = true then (if t203 = t189 then (laws_FnExactRecoverJournal.j1 kj4 t200 t199 (t204 != t190)) else (laws_FnExactRecoverJournal.j1 kj4 t200 t199 true)) else (laws_FnExactRecoverJournal.j1 kj4 t200 t199 true))) = some r := H; have A22 := Aside0.mk A220; clear A220; have HC23 := Aside0.mk H; clear H; obtain ⟨Ao24, co24, eo24⟩ := Kd.R_slice HO_6.out; subst eo24; go_upto_region 16 with (first | ((with_reducible refine gate_callee (f := 21) rfl ?_); refine gL_ (some 45) Tryd.func21 #[.slice Ao24 t193.length co24, .int .i64 1] ?_; (with_reducible refine (laws_markStringS.calls kj4 (fun k_ => some k_ = (.slice Ao24 t193.length co24 : Value).ownBlock) (.slice Ao24 t193.length co24) t193 1 t199 t200 w _ ?side1 ?side2 A18.out).mono ?_); (case side1 => repeat (first | (with_reducible first | exact HB.out | apply below_alloc | apply pw_below_drewN | apply below_drew1) | exact HB.out)); (case side2 => exact Kd.R_tight rfl HO_6.out); rintro e w25 ⟨rfl, hy0, hb, hkp⟩; refine ⟨_, rfl, ?_⟩; have n0_ := Aside0.mk (Kd.R_mono (ok' := fun k_ => some k_ ≠ (.slice Ao24 t193.length co24 : Value).ownBlock) (Kd.R_keptB (HO_3.out) hkp (fun k_ hk_ hs_ => (hk_) hs_)) (fun k_ hk_ => hk_.1)); have n1_ := Aside0.mk (Kd.R_reok rfl hy0 (fun k_ e_ => HO_6.out.1 k_ e_)); have n2_ := Aside0.mk (hb); clear HO_3 HO_6 HB; have HO_3 := n0_; have HO_6 := n1_; have HB := n2_; clear n0_ n1_ n2_; (try clear hb); (try clear hkp); (try clear hy0)) | ((with_reducible refine gate_callee (f := 22) rfl ?_); refine goesL_ (some 48) rfl rfl Tryd.func22 (by kernel_rfl) rfl #[.slice Ao24 t200.length co24, .int .i64 1] rfl (by (try simp only [List.map_toArray, List.map_cons, List.map_nil]); first | done | (rw [show t200.length = t193.length from (Kd.R_reads' HO_6.out).1.symm] <;> rfl) | rfl | (simp only [List.length_drop, List.length_take]; rfl)) ?_; (with_reducible refine (laws_heldStringS.calls kj4 _ _ t200 1 t201 _ ?side1 ?side2 A19.out).mono ?_); (case side1 => exact ck_ (Kd.R_reads' HO_6.out).2.2); (case side2 => rw [show t200.length = t193.length from (Kd.R_reads' HO_6.out).1.symm]; exact (Kd.R_reads' HO_6.out).2.1); rintro e w26 ⟨rfl, hb⟩; refine ⟨_, rfl, ?_⟩; have n0_ := Aside0.mk (Kd.R_below (rk_ HO_3.out) hb); have n1_ := Aside0.mk (Kd.R_below (rk_ HO_6.out) hb); have n2_ := Aside0.mk (below_step (bk_ HB.out) hb); clear HO_3 HO_6 HB; have HO_3 := n0_; have HO_6 := n1_; have HB := n2_; clear n0_ n1_ n2_; (try clear hb); (try clear hb2); (try clear hk); (try clear hi)) | ((with_reducible refine gate_callee (f := 20) rfl ?_); refine gL_ (some 56) Tryd.func20 #[.string a0] ?_; (with_reducible refine (impl_RecoverJournal.calls kj4 a0 t202 t203 t204 _ A22.out ?mx).mono ?_); (case mx => exact MaxAt.below hM (by repeat (first | (with_reducible first | exact HB.out | apply below_alloc | apply pw_below_drewN | apply below_drew1) | refine below_set ?_ (Aside0.out (by assumption))))); rintro e w27 ⟨v205, rfl, ho0, hb⟩; refine ⟨_, rfl, ?_⟩; have n0_ := Aside0.mk (Kd.R_elder' (rk_ HO_3.out) (Kd.R_base ho0) hb); have n1_ := Aside0.mk (Kd.R_elder' (rk_ HO_6.out) (Kd.R_base ho0) hb); have n2_ := Aside0.mk (Kd.R_lower (Kd.R_new' (Kd.R_new' ho0 (Kd.R_lt (rk_ HO_3.out))) (Kd.R_lt (rk_ HO_6.out))) (below_size (bk_ HB.out))); have n3_ := Aside0.mk (below_step (bk_ HB.out) hb); clear HO_3 HO_6 HB; have HO_3 := n0_; have HO_6 := n1_; have HO206 := n2_; have HB := n3_; clear n0_ n1_ n2_ n3_; (try clear hb); (try clear hb2); (try clear hk); (try clear hi); (try clear ho0)))
           (try simp only [Act.put, List.setIfInBounds_toArray, List.set_cons_zero, List.set_cons_succ]); go_cut [73] (fun v73 wc => ∃ (kq : Nat) (x73_22 : Bool), v73 = .bool x73_22 ∧ Aside0 (laws_FnExactRecoverJournal.j1 kq t200 t199 x73_22 = some r) ∧ Aside0 (kq ≤ kj4) ∧ Aside0 (Kd.R Kd.string 9 wc w.heap.size (fun _ => True) (.slice Ao24 t193.length co24) t200) ∧ Aside0 (Below w.heap.size w wc)); case first =>
            have H := HC23.out; clear HC23; replace H := Option.bind_eq_some_iff.mp H; obtain ⟨t207, A280, H⟩ := H; replace H : (if t207 = true then (if t203 = t189 then (laws_FnExactRecoverJournal.j1 kj4 t200 t199 (t204 != t190)) else (laws_FnExactRecoverJournal.j1 kj4 t200 t199 true)) else (laws_FnExactRecoverJournal.j1 kj4 t200 t199 true)) = some r := H; have A28 := Aside0.mk A280; clear A280; by_cases c29 : t207 = true
            · subst c29; have H1 : (if t203 = t189 then (laws_FnExactRecoverJournal.j1 kj4 t200 t199 (t204 != t190)) else (laws_FnExactRecoverJournal.j1 kj4 t200 t199 true)) = some r := by rw [if_pos rfl] at H; exact H
              clear H; have H := H1; clear H1; by_cases c30 : t203 = t189
              · rw [if_pos c30] at H; have c30b0 : (t203 == t189) = true := beq_iff_eq.mpr c30; have c30b1 : (t203 != t189) = false := bne_eq_false_iff_eq.mpr c30; clear c30; (first | rw [c30b0] | (simp only [i64_w, i32_w]; rw [c30b0]) | skip); have H' := Aside0.mk H; clear H; obtain ⟨Ao31, co31, eo31⟩ := Kd.R_slice HO206.out; subst eo31; obtain ⟨Ao32, co32, eo32⟩ := Kd.R_slice HO_3.out; subst eo32; go_wp2_with (first | ((with_reducible refine gate_callee (f := 13) rfl ?_); refine gL_ (some 62) Tryd.func13 #[.slice Ao31 t202.length co31, .slice Ao32 t188.length co32] ?_; (with_reducible refine (laws_eqStringS.calls kj4 _ _ t202 _ _ t188 true _ ?side1 ?side2 ?side3 ?side4 A28.out).mono ?_); (case side1 => exact ck_ (Kd.R_reads' HO206.out).2.2); (case side2 => exact (Kd.R_reads' HO206.out).2.1); (case side3 => exact ck_ (Kd.R_reads' HO_3.out).2.2); (case side4 => exact (Kd.R_reads' HO_3.out).2.1); rintro e w' ⟨rfl, ⟨nd, rfl⟩⟩; refine ⟨_, rfl, ?_⟩)); go_meet; case rel => exact ⟨_, ((t204 != t190)), (by first | rfl | (simp; done) | (simp [i64_w, i32_w]; done) | (simp [*]; done) | (simp [*, i64_w, i32_w]; done)), H', ⟨by have := HJ4.out; first | omega | exact Nat.le_refl _⟩, ⟨by (with_reducible repeat (first | apply Kd.R_alloc | apply Kd.R_drewN | apply Kd.R_drew)); exact Kd.R_mono HO_6.out (fun _ hk => trivial)⟩, ⟨bk_ HB.out⟩⟩
              · rw [if_neg c30] at H; have c30b0 : (t203 == t189) = false := beq_eq_false_iff_ne.mpr c30; have c30b1 : (t203 != t189) = true := bne_iff_ne.mpr c30; (first | rw [c30b0] | (simp only [i64_w, i32_w]; rw [c30b0]) | skip); have H' := Aside0.mk H; clear H; obtain ⟨Ao33, co33, eo33⟩ := Kd.R_slice HO206.out; subst eo33; obtain ⟨Ao34, co34, eo34⟩ := Kd.R_slice HO_3.out; subst eo34; go_wp2_with (first | ((with_reducible refine gate_callee (f := 13) rfl ?_); refine gL_ (some 62) Tryd.func13 #[.slice Ao33 t202.length co33, .slice Ao34 t188.length co34] ?_; (with_reducible refine (laws_eqStringS.calls kj4 _ _ t202 _ _ t188 true _ ?side1 ?side2 ?side3 ?side4 A28.out).mono ?_); (case side1 => exact ck_ (Kd.R_reads' HO206.out).2.2); (case side2 => exact (Kd.R_reads' HO206.out).2.1); (case side3 => exact ck_ (Kd.R_reads' HO_3.out).2.2); (case side4 => exact (Kd.R_reads' HO_3.out).2.1); rintro e w' ⟨rfl, ⟨nd, rfl⟩⟩; refine ⟨_, rfl, ?_⟩)); go_meet; case rel => exact ⟨_, (true), (by first | rfl | (simp; done) | (simp [i64_w, i32_w]; done) | (simp [*]; done) | (simp [*, i64_w, i32_w]; done)), H', ⟨by have := HJ4.out; first | omega | exact Nat.le_refl _⟩, ⟨by (with_reducible repeat (first | apply Kd.R_alloc | apply Kd.R_drewN | apply Kd.R_drew)); exact Kd.R_mono HO_6.out (fun _ hk => trivial)⟩, ⟨bk_ HB.out⟩⟩
            · replace c29 := Bool.eq_false_iff.mpr c29; subst c29; have H1 : (laws_FnExactRecoverJournal.j1 kj4 t200 t199 true) = some r := by rw [if_neg (show ¬ (false = true) by decide)] at H; exact H
              clear H; have H := H1; clear H1; have H' := Aside0.mk H; clear H; obtain ⟨Ao35, co35, eo35⟩ := Kd.R_slice HO206.out; subst eo35; obtain ⟨Ao36, co36, eo36⟩ := Kd.R_slice HO_3.out; subst eo36; go_wp2_with (first | ((with_reducible refine gate_callee (f := 13) rfl ?_); refine gL_ (some 62) Tryd.func13 #[.slice Ao35 t202.length co35, .slice Ao36 t188.length co36] ?_; (with_reducible refine (laws_eqStringS.calls kj4 _ _ t202 _ _ t188 false _ ?side1 ?side2 ?side3 ?side4 A28.out).mono ?_); (case side1 => exact ck_ (Kd.R_reads' HO206.out).2.2); (case side2 => exact (Kd.R_reads' HO206.out).2.1); (case side3 => exact ck_ (Kd.R_reads' HO_3.out).2.2); (case side4 => exact (Kd.R_reads' HO_3.out).2.1); rintro e w' ⟨rfl, ⟨nd, rfl⟩⟩; refine ⟨_, rfl, ?_⟩)); go_meet; case rel => exact ⟨_, (true), (by first | rfl | (simp; done) | (simp [i64_w, i32_w]; done) | (simp [*]; done) | (simp [*, i64_w, i32_w]; done)), H', ⟨by have := HJ4.out; first | omega | exact Nat.le_refl _⟩, ⟨by (with_reducible repeat (first | apply Kd.R_alloc | apply Kd.R_drewN | apply Kd.R_drew)); exact Kd.R_mono HO_6.out (fun _ hk => trivial)⟩, ⟨bk_ HB.out⟩⟩
           case rest =>
            clear HC23; (try clear c1); (try clear c2); (try clear c2b0); (try clear c2b1); (try clear p2); (try clear c3); (try clear c5); (try clear c9); (try clear c10); (try clear c10b0); (try clear c10b1); (try clear c13); (try clear c17); (try clear c19); (try clear c20); (try clear c20b0); (try clear c21); (try clear c21b0); (try clear c21b1); (try clear c22); (try clear c29); (try clear c30); (try clear c30b0); (try clear c30b1); (try clear p2); obtain ⟨kq, x73_22, rfl, HA, HJ22, HO_6, HB⟩ := hcut; have hl6_22 := (Kd.R_reads' HO_6.out).1; rw [hl6_22] at HO_6; (try simp only [hl6_22]); cases kq with
            | zero => exact absurd HA.out (by simp [laws_FnExactRecoverJournal.j1])
            | succ kj22 =>
             have H := HA.out; clear HA; simp only [laws_FnExactRecoverJournal.j1] at H; by_cases c37 : x73_22 = true
             · subst c37; have H1 : (some false) = some r := by rw [if_pos rfl] at H; exact H
               clear H; have H := H1; clear H1; exact absurd (Option.some.inj H) (by rw [hr_]; decide)
             · replace c37 := Bool.eq_false_iff.mpr c37; subst c37; have H1 : ((laws_heldStringS.f kj22 t200 1).bind fun t208 => (if t208 < 0 then (some false) else (if t208 = t199 then (some true) else (some false)))) = some r := by rw [if_neg (show ¬ (false = true) by decide)] at H; exact H
               clear H; have H := H1; clear H1; replace H := Option.bind_eq_some_iff.mp H; obtain ⟨t208, A380, H⟩ := H; replace H : (if t208 < 0 then (some false) else (if t208 = t199 then (some true) else (some false))) = some r := H; have A38 := Aside0.mk A380; clear A380; by_cases c39 : t208 < 0
               · rw [if_pos c39] at H; have c39b0 : decide (t208 < 0) = true := decide_eq_true c39; clear c39; exact absurd (Option.some.inj H) (by rw [hr_]; decide)
               · rw [if_neg c39] at H; have c39b0 : decide (t208 < 0) = false := decide_eq_false c39; clear c39; by_cases c40 : t208 = t199
                 · rw [if_pos c40] at H; have c40b0 : (t208 == t199) = true := beq_iff_eq.mpr c40; have c40b1 : (t208 != t199) = false := bne_eq_false_iff_eq.mpr c40; clear c40; obtain rfl := Option.some.inj H; go_wp2_with (first | ((with_reducible refine gate_callee (f := 22) rfl ?_); refine gL_ (some 76) Tryd.func22 #[.slice Ao24 t200.length co24, .int .i64 1] ?_; (with_reducible refine (laws_heldStringS.calls kj22 _ _ t200 1 t208 _ ?side1 ?side2 A38.out).mono ?_); (case side1 => exact ck_ (Kd.R_reads' HO_6.out).2.2); (case side2 => exact (Kd.R_reads' HO_6.out).2.1); rintro e w41 ⟨rfl, hb⟩; refine ⟨_, rfl, ?_⟩; have n0_ := Aside0.mk (Kd.R_below (rk_ HO_6.out) hb); have n1_ := Aside0.mk (below_step (bk_ HB.out) hb); clear HO_6 HB; have HO_6 := n0_; have HB := n1_; clear n0_ n1_; (try clear hb); (try clear hb2); (try clear hk); (try clear hi))); go_ret; exact ⟨by first | rfl | (simp [errW_none, errW_some] <;> rfl) | (simp [*, errW_none, errW_some] <;> rfl), bk_ HB.out⟩
                 · rw [if_neg c40] at H; have c40b0 : (t208 == t199) = false := beq_eq_false_iff_ne.mpr c40; have c40b1 : (t208 != t199) = true := bne_iff_ne.mpr c40; exact absurd (Option.some.inj H) (by rw [hr_]; decide)
         · rw [if_neg c21] at H; have c21b0 : (t201 == t199) = false := beq_eq_false_iff_ne.mpr c21; have c21b1 : (t201 != t199) = true := bne_iff_ne.mpr c21; exact absurd (Option.some.inj H) (by rw [hr_]; decide)

/-- THE ONE PURE STATEMENT of laws_FnExactRecoverJournal: yours. -/
def laws_FnExactRecoverJournal.Pure : Prop := ∀ (a0 : ByteArray), a0.size ≤ 140737488351232 → ∃ k, laws_FnExactRecoverJournal.f k a0 = some true
theorem laws_FnExactRecoverJournal.walk (P : laws_FnExactRecoverJournal.Pure) (a0 : ByteArray) (w : World) (w0 : a0.size ≤ 140737488351232) (hM : MaxAt w) :
    Calls Tryd.prog 5 #[.string a0] w fun e w' => e = .returned (.bool true) ∧ Below w.heap.size w w' := by
 obtain ⟨k, h⟩ := P a0 w0; refine (laws_FnExactRecoverJournal.calls k a0 true w rfl h hM).mono ?_; rintro e w' ⟨rfl, hd⟩; exact ⟨rfl, hd⟩

end Go.Proofs.YtnkmojmcdcjkmaaDoor.PFnExactRecoverJournal

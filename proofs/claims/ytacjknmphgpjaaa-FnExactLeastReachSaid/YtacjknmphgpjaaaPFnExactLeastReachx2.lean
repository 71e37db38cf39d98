-- Written by a program of this session (its own print).
import Derived.Test.YtacjknmphgpjaaaPFnExactLeastReachx0
import Derived.Test.YtacjknmphgpjaaaPFnExactLeastReachx1
namespace Go.Proofs.Ytacjknmphgpjaaa.PFnExactLeastReach
open Go.RowKit Go.Proofs.YtacjknmphgpjaaaW.PrintWords Go.Proofs.YtacjknmphgpjaaaW.PrintLast Go.Proofs.YtacjknmphgpjaaaW.PrintMore
attribute [local go_sem] max2_int min2_int max_two min_two max_three min_three max_four min_four   -- for this text's walks alone
set_option linter.unusedVariables false
set_option linter.unusedSimpArgs false

/-! ### impl_raised: function 110 -/
def impl_raised.l0 : Nat → Int → Int → Int → Int → Option (Int)
  | 0, _, _, _, _ => none
  | k + 1, x0, x5, x6, x7 => if x7 < x6 then (impl_raised.l0 k x0 (wrap64 (x5 * x0)) x6 (wrap64 (x7 + 1))) else (some x5)
def impl_raised.f (k : Nat) (a0 : Int) (a1 : Int) : Option (Int) := impl_raised.l0 k a0 1 a1 0
theorem impl_raised.mono_l : ∀ k, (∀ y0 y1 y2 y3, LeO (impl_raised.l0 k y0 y1 y2 y3) (impl_raised.l0 (k + 1) y0 y1 y2 y3))
  | 0 => fun _ _ _ _ r h => by simp [impl_raised.l0] at h
  | k + 1 => by
    have ih0 := impl_raised.mono_l k
    · intro y0 y1 y2 y3
      unfold impl_raised.l0
      repeat' first
      | (with_reducible exact ih0 _ _ _ _)
      | (with_reducible exact LeO.refl _)
      | (with_reducible exact LeO.none _)
      | (with_reducible refine LeO.ite ?_ ?_)
      | (with_reducible refine LeO.bind ?_ (fun _ => ?_))
      | exact ih0 _ _ _ _
      | exact LeO.none _
      | refine LeO.ite ?_ ?_
      | refine LeO.bind ?_ (fun _ => ?_)
theorem impl_raised.mono : ∀ a0 a1 k, LeO (impl_raised.f k a0 a1) (impl_raised.f (k + 1) a0 a1) := by
 intro a0 a1 k; have ih0 := impl_raised.mono_l k; unfold impl_raised.f; repeat' first
  | (with_reducible exact ih0 _ _ _ _)
  | (with_reducible exact LeO.refl _)
  | (with_reducible exact LeO.none _)
  | (with_reducible refine LeO.ite ?_ ?_)
  | (with_reducible refine LeO.bind ?_ (fun _ => ?_))
  | exact ih0 _ _ _ _
  | exact LeO.none _
  | refine LeO.ite ?_ ?_
  | refine LeO.bind ?_ (fun _ => ?_)
set_option maxHeartbeats 8000000 in
set_option maxRecDepth 100000 in
theorem impl_raised.calls (k : Nat) (a0 : Int) (a1 : Int) (r : Int) (w : World) (h : impl_raised.f k a0 a1 = some r) :
    Calls Try.prog 110 #[.int .i64 a0, .int .i64 a1] w fun e w' => e = .returned (.int .i64 r) ∧ Drawn0 w w' := by
 have H : (impl_raised.l0 k a0 1 a1 0) = some r := h; clear h; have H' := Aside0.mk H; clear H; go_enter Try.func110, Try.ntmps110; go_wp2; go_loopg [5, 7] k (fun kq v5 v7 w' => ∃ (x5_1 : Int) (x7_1 : Int), v5 = .int .i64 x5_1 ∧ v7 = .int .i64 x7_1 ∧ Aside0 (impl_raised.l0 kq a0 x5_1 a1 x7_1 = some r) ∧ Aside0 (kq ≤ k) ∧ Drawn0 w w'); case atStart => exact ⟨(1), (0), (by first | rfl | (simp; done) | (simp [i64_w, i32_w]; done) | (simp [*]; done) | (simp [*, i64_w, i32_w]; done)), (by first | rfl | (simp; done) | (simp [i64_w, i32_w]; done) | (simp [*]; done) | (simp [*, i64_w, i32_w]; done)), H', ⟨Nat.le_refl _⟩, by repeat (first | exact Drawn0.refl _ | apply Drawn0.step)⟩
 case round =>
  clear H'; (try clear c1); (try clear p2); obtain ⟨x5_1, x7_1, rfl, rfl, HA, HK1, ⟨m1, rfl⟩⟩ := hrel; cases gk with
  | zero => exact absurd HA.out (by simp [impl_raised.l0])
  | succ k1 =>
   have H := HA.out; clear HA; simp only [impl_raised.l0] at H; by_cases c3 : x7_1 < a1
   · rw [if_pos c3] at H; have c3b0 : decide (x7_1 < a1) = true := decide_eq_true c3; clear c3; have H' := Aside0.mk H; clear H; go_wp2; go_roundg k1; case measure => have := HK1.out; omega
     case rel => exact ⟨(wrap64 (x5_1 * a0)), (wrap64 (x7_1 + 1)), (by first | rfl | (simp; done) | (simp [i64_w, i32_w]; done) | (simp [*]; done) | (simp [*, i64_w, i32_w]; done)), (by first | rfl | (simp; done) | (simp [i64_w, i32_w]; done) | (simp [*]; done) | (simp [*, i64_w, i32_w]; done)), H', ⟨by have := HK1.out; omega⟩, by repeat (first | exact Drawn0.refl _ | apply Drawn0.step)⟩
   · rw [if_neg c3] at H; have c3b0 : decide (x7_1 < a1) = false := decide_eq_false c3; clear c3; obtain rfl := Option.some.inj H; go_wp2; go_ret; exact ⟨by first | rfl | (simp; done) | (simp [i64_w, i32_w]; done) | (simp [*]; done) | (simp [*, i64_w, i32_w]; done), by repeat (first | exact Drawn0.refl _ | apply Drawn0.step)⟩

/-! ### impl_Rule_cells: function 111 -/
def impl_Rule_cells.f (a0_0 : Int) (a0_1 : Int) (l0_2 : List Int) : Option (Int) := some (wrap64 ((wrap64 (2 * a0_1)) + 1))
set_option maxHeartbeats 8000000 in
set_option maxRecDepth 100000 in
theorem impl_Rule_cells.calls (a0_0 : Int) (a0_1 : Int) (A0_2 : Option Addr) (c0_2 : Nat) (l0_2 : List Int) (r : Int) (w : World) (hr0_2 : Kd.C (Kd.int .i64) w A0_2 l0_2.length l0_2) (hc0_2 : l0_2.length ≤ c0_2) (h : impl_Rule_cells.f a0_0 a0_1 l0_2 = some r) :
    Calls Try.prog 111 #[.agg #[.int .i64 a0_0, .int .i64 a0_1, .slice A0_2 l0_2.length c0_2]] w fun e w' => e = .returned (.int .i64 r) ∧ Below w.heap.size w w' := by
 have hu38 := Try.underlying38; have HR0_2 := Aside0.mk hr0_2; have HC0_2 := Aside0.mk hc0_2; clear hr0_2 hc0_2; have HB := Aside0.mk (Below.refl w.heap.size w); have H : (some (wrap64 ((wrap64 (2 * a0_1)) + 1))) = some r := h; clear h; obtain rfl := Option.some.inj H; go_enter Try.func111, Try.ntmps111; go_wp2_with (first | ((with_reducible refine gate_dst (N := 1) rfl ?_); refine box_event ?hg (N := 1) ?hd (cs := #[.int .i64 a0_0, .int .i64 a0_1, .slice A0_2 l0_2.length c0_2]) (t := 38) ?hr ?_; (case hd => rfl); (case hg => rfl); (case hr => first | (go_simp; done) | (go_simp; rfl)); intro gb161 hg w2 hbox hb; have n0_ := Aside0.mk (below_step (bk_ HB.out) hb); have n1_ := Aside0.mk (hbox); have n2_ := Aside0.mk ((by rw [hg]; exact (below_size (bk_ HB.out)) : w.heap.size ≤ gb161)); have n3_ := Aside0.mk ((by rw [hg]; exact (below_size (bk_ HB.out)) : w.heap.size ≤ gb161)); clear HB; have HB := n0_; have BK161 := n1_; have GW161 := n2_; have GE161 := n3_; clear n0_ n1_ n2_ n3_ hb hbox hg; have hcz3_0 := bc_ BK161.out 0 (.int .i64 a0_0); have hcz3_1 := bc_ BK161.out 1 (.int .i64 a0_1); have hcz3_2 := bc_ BK161.out 2 (.slice A0_2 l0_2.length c0_2); have hfz3_0 := blk_frozen BK161.out 0; have hfz3_1 := blk_frozen BK161.out 1; have hfz3_2 := blk_frozen BK161.out 2)); go_ret; exact ⟨by first | rfl | (simp [errW_none, errW_some] <;> rfl) | (simp [*, errW_none, errW_some] <;> rfl), bk_ HB.out⟩

/-! ### bits_Mul32: function 134 -/
def bits_Mul32.f (a0 : Int) (a1 : Int) : Option (Int × Int) := some (((IntKind.u64.wrap ((IntKind.u64.wrap (a0)) * (IntKind.u64.wrap (a1)))) / 4294967296) % 4294967296, (IntKind.u64.wrap ((IntKind.u64.wrap (a0)) * (IntKind.u64.wrap (a1)))) % 4294967296)
set_option maxHeartbeats 8000000 in
set_option maxRecDepth 100000 in
theorem bits_Mul32.calls (a0 : Int) (a1 : Int) (r1 : Int) (r2 : Int) (w : World) (h : bits_Mul32.f a0 a1 = some (r1, r2)) :
    Calls Try.prog 134 #[.int .u32 a0, .int .u32 a1] w fun e w' => e = .returned (.tuple #[.int .u32 r1, .int .u32 r2]) ∧ Drawn0 w w' := by
 have H : (some (((IntKind.u64.wrap ((IntKind.u64.wrap (a0)) * (IntKind.u64.wrap (a1)))) / 4294967296) % 4294967296, (IntKind.u64.wrap ((IntKind.u64.wrap (a0)) * (IntKind.u64.wrap (a1)))) % 4294967296)) = some (r1, r2) := h; clear h; simp only [Option.some.injEq, Prod.mk.injEq] at H; obtain ⟨rfl, rfl⟩ := H; go_enter Try.func134, Try.ntmps134; go_wp2; go_ret2; exact ⟨by first | rfl | (simp; done) | (simp [i64_w, i32_w]; done) | (simp [*]; done) | (simp [*, i64_w, i32_w]; done), by repeat (first | exact Drawn0.refl _ | apply Drawn0.step)⟩

/-! ### bits_Mul64: function 135 -/
def bits_Mul64.f (a0 : Int) (a1 : Int) : Option (Int × Int) := some (IntKind.u64.wrap ((IntKind.u64.wrap ((IntKind.u64.wrap ((a0 / 4294967296) * (a1 / 4294967296))) + ((IntKind.u64.wrap ((IntKind.u64.wrap ((a0 / 4294967296) * (Go.bits .and .u64 a1 4294967295))) + ((IntKind.u64.wrap ((Go.bits .and .u64 a0 4294967295) * (Go.bits .and .u64 a1 4294967295))) / 4294967296))) / 4294967296))) + ((IntKind.u64.wrap ((Go.bits .and .u64 (IntKind.u64.wrap ((IntKind.u64.wrap ((a0 / 4294967296) * (Go.bits .and .u64 a1 4294967295))) + ((IntKind.u64.wrap ((Go.bits .and .u64 a0 4294967295) * (Go.bits .and .u64 a1 4294967295))) / 4294967296))) 4294967295) + (IntKind.u64.wrap ((Go.bits .and .u64 a0 4294967295) * (a1 / 4294967296))))) / 4294967296)), IntKind.u64.wrap (a0 * a1))
set_option maxHeartbeats 8000000 in
set_option maxRecDepth 100000 in
theorem bits_Mul64.calls (a0 : Int) (a1 : Int) (r1 : Int) (r2 : Int) (w : World) (h : bits_Mul64.f a0 a1 = some (r1, r2)) :
    Calls Try.prog 135 #[.int .u64 a0, .int .u64 a1] w fun e w' => e = .returned (.tuple #[.int .u64 r1, .int .u64 r2]) ∧ Drawn0 w w' := by
 have H : (some (IntKind.u64.wrap ((IntKind.u64.wrap ((IntKind.u64.wrap ((a0 / 4294967296) * (a1 / 4294967296))) + ((IntKind.u64.wrap ((IntKind.u64.wrap ((a0 / 4294967296) * (Go.bits .and .u64 a1 4294967295))) + ((IntKind.u64.wrap ((Go.bits .and .u64 a0 4294967295) * (Go.bits .and .u64 a1 4294967295))) / 4294967296))) / 4294967296))) + ((IntKind.u64.wrap ((Go.bits .and .u64 (IntKind.u64.wrap ((IntKind.u64.wrap ((a0 / 4294967296) * (Go.bits .and .u64 a1 4294967295))) + ((IntKind.u64.wrap ((Go.bits .and .u64 a0 4294967295) * (Go.bits .and .u64 a1 4294967295))) / 4294967296))) 4294967295) + (IntKind.u64.wrap ((Go.bits .and .u64 a0 4294967295) * (a1 / 4294967296))))) / 4294967296)), IntKind.u64.wrap (a0 * a1))) = some (r1, r2) := h; clear h; simp only [Option.some.injEq, Prod.mk.injEq] at H; obtain ⟨rfl, rfl⟩ := H; go_enter Try.func135, Try.ntmps135; go_wp2; go_ret2; exact ⟨by first | rfl | (simp; done) | (simp [i64_w, i32_w]; done) | (simp [*]; done) | (simp [*, i64_w, i32_w]; done), by repeat (first | exact Drawn0.refl _ | apply Drawn0.step)⟩

/-! ### bits_Mul: function 131 -/
def bits_Mul.f (a0 : Int) (a1 : Int) : Option (Int × Int) := (bits_Mul64.f a0 a1).bind fun bt162 => (some (bt162.1, bt162.2))
set_option maxHeartbeats 8000000 in
set_option maxRecDepth 100000 in
theorem bits_Mul.calls (a0 : Int) (a1 : Int) (r1 : Int) (r2 : Int) (w : World) (h : bits_Mul.f a0 a1 = some (r1, r2)) :
    Calls Try.prog 131 #[.int .u64 a0, .int .u64 a1] w fun e w' => e = .returned (.tuple #[.int .u64 r1, .int .u64 r2]) ∧ Drawn0 w w' := by
 have H : ((bits_Mul64.f a0 a1).bind fun bt162 => (some (bt162.1, bt162.2))) = some (r1, r2) := h; clear h; replace H := Option.bind_eq_some_iff.mp H; obtain ⟨⟨t162, t163⟩, A30, H⟩ := H; replace H : (some (t162, t163)) = some (r1, r2) := H; have A3 := Aside0.mk A30; clear A30; simp only [Option.some.injEq, Prod.mk.injEq] at H; obtain ⟨rfl, rfl⟩ := H; go_enter Try.func131, Try.ntmps131; go_wp2_with (first | ((with_reducible refine gate_callee (f := 135) rfl ?_); refine gL_ (some 25) Try.func135 #[.int .u64 a0, .int .u64 a1] ?_; (with_reducible refine (bits_Mul64.calls a0 a1 t162 t163 _ A3.out).mono ?_); rintro e w' ⟨rfl, ⟨nd, rfl⟩⟩; refine ⟨_, rfl, ?_⟩)); go_ret2; exact ⟨by first | rfl | (simp; done) | (simp [i64_w, i32_w]; done) | (simp [*]; done) | (simp [*, i64_w, i32_w]; done), by repeat (first | exact Drawn0.refl _ | apply Drawn0.step)⟩

/-! ### slices_Repeat_int64_int64: function 120 -/
def slices_Repeat_int64_int64.f (l0 : List Int) (a1 : Int) : Option (List Int) := if l0.length = 1 then (if 1 ≤ a1 then (if a1 ≤ 1000 then some (List.replicate a1.toNat (rd l0 0)) else none) else none) else none
theorem rep_mul (m : Fin 1001) : bits_Mul.f 1 (m.val : Int) = some (0, (m.val : Int)) := by
  revert m; decide +kernel
/-- The block in which the first n cells are told. -/
structure RepI (w w' : World) (g cap m n : Nat) (y : Int) : Prop where
  blk : ∃ cur, w'.heap[g]? = some (.cells cur 2 (0, 0)) ∧ cur.size = cap ∧ ∀ j, j < n → cur[j]? = some (.int .i64 y)
  bel : Below w.heap.size w w'
theorem RepI.fill {w w' : World} {g cap m n : Nat} {y : Int} (h : RepI w w' g cap m n y) (hg : w.heap.size ≤ g) (q : Nat) (hq : n + q ≤ cap) : RepI w (w'.setCells g n (List.replicate q (.int .i64 y))) g cap m (n + q) y := by
  induction q generalizing n w' with
  | zero => exact h
  | succ q ih =>
    rw [List.replicate_succ, World.setCells]
    have hs : RepI w (w'.setCell ⟨g, n, none⟩ (.int .i64 y)) g cap m (n + 1) y := by
      obtain ⟨cur, hb, hc, hj⟩ := h.blk
      refine ⟨⟨cur.setIfInBounds n (.int .i64 y), blk_set hb n _, by simpa using hc, fun j hjn => ?_⟩, below_set h.bel hg⟩
      by_cases e : j = n
      · subst e
        rw [Array.getElem?_setIfInBounds_self]
        rw [if_pos (by omega)]
      · rw [Array.getElem?_setIfInBounds_ne (by omega)]
        exact hj j (by omega)
    have := ih hs (by omega)
    rw [show n + 1 + q = n + (q + 1) by omega] at this
    exact this
theorem RepI.row {w w' : World} {g cap m : Nat} {y : Int} (h : RepI w w' g cap m m y) (hg : w.heap.size ≤ g) (h0 : m ≤ cap) (h1 : cap ≤ maxLen) : Kd.R (Kd.int .i64) 2 w' w.heap.size (fun _ => True) (.slice (some ⟨g, 0, none⟩) m cap) (List.replicate m y) := by
  obtain ⟨cur, hb, hc, hj⟩ := h.blk
  have e : cur.toList.take (m * 1) = List.replicate m (Value.int .i64 y) := by
    apply List.ext_getElem?
    intro j
    by_cases hjm : j < m
    · rw [List.getElem?_take, if_pos (by omega), Array.getElem?_toList, hj j hjm, List.getElem?_replicate, if_pos hjm]
    · rw [List.getElem?_eq_none (by simp; omega), List.getElem?_eq_none (by simp; omega)]
  refine ⟨fun _ _ => trivial, List.replicate m (.int .i64 y), ⟨by simp only [List.length_replicate]; exact (Nat.mul_one m).symm, .inr ⟨g, cap, cur, by rw [List.length_replicate], hg, hb, by simpa using h0, h1, by rw [hc]; exact (Nat.mul_one _).symm, by rw [List.length_replicate]; exact e⟩⟩, ?_⟩
  have := Kd.reps_scalar (enc := Value.int .i64) (List.replicate m y)
  rw [show encs (Value.int .i64) (List.replicate m y) = List.replicate m (.int .i64 y) by simp [encs]] at this
  exact this
theorem copy_step {P : Program} {ops : Array Oper} {o : Oper} {a : Act} {Q : Exit → Act → World → Prop} {Kc : Act → World → Prop} {W w1 : World} {v1 v2 r : Value} {N : Option Tmp} (hw : Region.wanted o (yielded ops a.tmps) = true) (hN : o.dst = N) (s x : Operand) (t t' : TypeId)
    (ho : o.op = .call { callee := .builtin .copy, args := #[s, x], argTypes := #[t, t'] }) (hs : a.eval s = v1) (hx : a.eval x = v2) (hr : (Builtin.copy_ #[t, t'] o.type #[v1, v2]).run P W = .ok r w1) (h : Kc (a.put N r) w1) :
    if Region.wanted o (yielded ops a.tmps) = true then Oper.wp P o a W Kc Q else Kc (a.put N undef) W := by
  subst hN
  rw [if_pos hw]
  unfold Oper.wp execOp
  simp only [ho, resolve, invoke, builtin, Sem.run_bind, Sem.run_pure, Result.andThen_ok, List.map_toArray, List.map_cons, List.map_nil, hs, hx, hr]
  exact h
set_option maxHeartbeats 8000000 in
set_option maxRecDepth 100000 in
theorem slices_Repeat_int64_int64.calls (A0 : Option Addr) (c0 : Nat) (l0 : List Int) (a1 : Int) (r : List Int) (w : World) (hr0 : Kd.C (Kd.int .i64) w A0 l0.length l0) (hc0 : l0.length ≤ c0) (h : slices_Repeat_int64_int64.f l0 a1 = some r) :
    Calls Try.prog 120 #[.slice A0 l0.length c0, .int .i64 a1] w fun e w' => ∃ v0_ : Value, e = .returned (v0_) ∧ Kd.R (Kd.int .i64) 2 w' w.heap.size (fun _ => True) v0_ r ∧ Below w.heap.size w w' := by
  unfold slices_Repeat_int64_int64.f at h
  by_cases c1 : l0.length = 1
  · rw [if_pos c1] at h
    by_cases c2 : 1 ≤ a1
    · rw [if_pos c2] at h
      by_cases c3 : a1 ≤ 1000
      · rw [if_pos c3] at h
        obtain ⟨m, rfl⟩ := Int.eq_ofNat_of_zero_le (show 0 ≤ a1 by omega)
        have hm0 : 1 ≤ m := by omega
        have hm : m ≤ 1000 := by omega
        obtain ⟨y, rfl⟩ : ∃ y, l0 = [y] := by
          match l0, c1 with
          | [y], _ => exact ⟨y, rfl⟩
        have hh := Option.some.inj h
        have hy : rd [y] 0 = y := rfl
        rw [hy, Int.toNat_natCast] at hh
        subst hh
        clear h hy c1 c2 c3
        have hmul := rep_mul ⟨m, by omega⟩
        replace hmul : bits_Mul.f 1 (m : Int) = some (0, (m : Int)) := hmul
        have hw1 : IntKind.u64.wrap (m : Int) = (m : Int) := by
          have : ∀ m : Fin 1001, IntKind.u64.wrap (m.val : Int) = (m.val : Int) := by decide +kernel
          exact this ⟨m, by omega⟩
        have hw2 : IntKind.u64.wrap (1 : Int) = 1 := by decide +kernel
        have hw3 : wrap64 (m : Int) = (m : Int) := by unfold wrap64; omega
        have e1 : decide ((m : Int) < 0) = false := decide_eq_false (by omega)
        have e1' : ((m : Int) < 0) = False := eq_false (by omega)
        have e2 : decide (9223372036854775807 < (m : Int)) = false := decide_eq_false (by omega)
        have e2' : (9223372036854775807 < (m : Int)) = False := eq_false (by omega)
        obtain ⟨i0, hi0, hz0⟩ := Option.map_eq_some_iff.1 info2
        simp only [Prod.mk.injEq] at hz0
        have hinfo : (Try.prog.info? 2).map (·.size) = some 1 := by rw [hi0]; exact congrArg some hz0.2.1
        obtain ⟨ad, hx1, hx2⟩ : ∃ ad, A0 = some ad ∧ w.cell? ad = some (.int .i64 y) := by
          obtain ⟨ad, e, hx⟩ := Kd.at_int hr0 0 (by omega) (by simp)
          have hx' : w.cell? (ad.add 0) = some (.int .i64 y) := hx
          rw [Addr.add_zero'] at hx'
          exact ⟨ad, e, hx'⟩
        subst hx1
        have HB := Aside0.mk (Below.refl w.heap.size w)
        show Calls Try.prog 120 #[.slice (some ad) 1 c0, .int .i64 (m : Int)] w _
        go_enter Try.func120, Try.ntmps120
        go_wp2_with (first | ((with_reducible refine gate_callee (f := 131) rfl ?_); refine gL_ (some 18) Try.func131 #[.int .u64 1, .int .u64 (m : Int)] ?_; (with_reducible refine (bits_Mul.calls 1 (m : Int) 0 (m : Int) _ hmul).mono ?_); rintro e w2 ⟨rfl, hdr⟩; replace HB := Aside0.mk (below_step HB.out (by exact hdr.below)); refine ⟨_, rfl, ?_⟩) | ((with_reducible refine gate_dst (N := 30) rfl ?_); refine Kd.R_make (Kd.int .i64) _ 2 rfl (N := 30) rfl 22 _ _ rfl (m : Int) rfl rfl Try.underlying22 (.int .i64 0) 8 info2 rfl (by decide) (by omega) 0 (ok := fun _ => True) (okp := fun _ => True) rfl (fun _ hk => hk) trivial (by omega) (by rw [Int.toNat_natCast]; omega) (Below.refl _ _) (Nat.le_refl _) ?_; intro v30 w3 ho hb hg hnew))
        have hB3 : Below w.heap.size w w3 := below_step HB.out hb
        obtain ⟨g, cap, hv, hgw, hmc, hcm, hI0⟩ : ∃ g cap, v30 = .slice (some ⟨g, 0, none⟩) m cap ∧ w.heap.size ≤ g ∧ m ≤ cap ∧ cap ≤ maxLen ∧ RepI w w3 g cap m 0 y := by
          obtain ⟨_, inner, hown, _⟩ := ho
          rcases hown.2 with ⟨_, hn⟩ | ⟨g, cap, cur, rfl, hgb, hblk, h1, h2, h3, h4⟩
          · simp at hn; omega
          · exact ⟨g, cap, by simp, by have := below_size HB.out; omega, by simpa using h1, h2, ⟨⟨cur, hblk, by rw [h3]; exact Nat.mul_one _, fun j hj => by omega⟩, hB3⟩⟩
        subst hv
        have hcp : (Builtin.copy_ #[22, 22] 3 #[.slice (some ⟨g, 0, none⟩) m cap, .slice (some ad) 1 c0]).run Try.prog w3 = .ok (.int .i64 1) (w3.setCells g 0 [.int .i64 y]) := by
          obtain ⟨cur, hblk, hcur, _⟩ := hI0.blk
          have := run_copy_cells (P := Try.prog) w3 22 22 3 2 g 0 m cap ad 1 c0 [.int .i64 y] Try.underlying22 hinfo (by show 1 = min 1 m; omega) (fun j v hj => by
            have hj0 : j = 0 := by have := (List.getElem?_eq_some_iff.1 hj).1; simp at this; omega
            subst hj0
            have : v = .int .i64 y := by simpa using hj.symm
            subst this
            rw [Addr.add_zero']
            exact hB3.cell (World.block_lt_of_cell? w _ hx2) ▸ hx2)
            (fun j hj => by
              have hj0 : j = 0 := by simp at hj; omega
              subst hj0
              rw [blk_cell hblk, Nat.add_zero, Array.getElem?_eq_getElem (by omega)]
              rfl)
            (fun j hj => blk_frozen hblk _) (by intro v hv; simp at hv; subst hv; rfl)
          exact this
        have hI1 : RepI w (w3.setCells g 0 [.int .i64 y]) g cap m 1 y := hI0.fill hgw 1 (by omega)
        generalize w3.setCells g 0 [.int .i64 y] = w4 at hcp hI1
        simp only [hcp, Result.andThen_ok]
        go_wp2
        go_loopg [8] m (fun kq v8 w' => ∃ (n : Nat), v8 = .int .i64 (n : Int) ∧ Aside0 (1 ≤ n ∧ n ≤ m ∧ m - n ≤ kq) ∧ Aside0 (RepI w w' g cap m n y))
        case atStart => exact ⟨1, rfl, ⟨by omega⟩, ⟨hI1⟩⟩
        case round =>
          obtain ⟨n, rfl, hn, hI⟩ := hrel
          obtain ⟨hn1, hn2, hn3⟩ := hn.out
          by_cases hlt : n < m
          · obtain ⟨k1, rfl⟩ : ∃ k1, gk = k1 + 1 := ⟨gk - 1, by omega⟩
            have hfin : 1 ≤ n + min n (m - n) ∧ n + min n (m - n) ≤ m ∧ m - (n + min n (m - n)) ≤ k1 := by omega
            have hk1 : k1 < k1 + 1 := Nat.lt_succ_self _
            have d1 : decide ((n : Int) < (m : Int)) = true := decide_eq_true (by omega)
            go_wp2
            have hs41 : ∀ W : World, (Instr.slice 22 (.slice (some ⟨g, 0, none⟩) m cap) (some (.int .i64 (n : Int))) none none).run Try.prog W = .ok (.slice (some ⟨g, n, none⟩) (m - n) (cap - n)) W := by
              intro W
              have h_ := cut_from (P := Try.prog) 22 2 .i64 Try.underlying22 hi0 1 hz0.2.1 (some ⟨g, 0, none⟩) m cap (n : Int) (by omega) (by omega) W
              rw [Int.toNat_natCast, if_neg (by omega)] at h_
              have ea : (Option.map (fun x => Addr.add x (n * 1)) (some (⟨g, 0, none⟩ : Addr))) = some ⟨g, n, none⟩ := by
                rw [Option.map_some, Nat.mul_one, add0_]
              rw [ea] at h_
              exact h_
            have hs44 : ∀ W : World, (Instr.slice 22 (.slice (some ⟨g, 0, none⟩) m cap) none (some (.int .i64 (n : Int))) none).run Try.prog W = .ok (.slice (some ⟨g, 0, none⟩) n cap) W := by
              intro W
              have h_ := cut_to (P := Try.prog) 22 2 .i64 Try.underlying22 hi0 (some ⟨g, 0, none⟩) m cap (n : Int) (by omega) (by omega) hmc W
              rw [Int.toNat_natCast] at h_
              exact h_
            have hI5 : RepI w wr.drew g cap m n y := by
              obtain ⟨cur, hblk, hcur, hj⟩ := hI.out.blk
              exact ⟨⟨cur, blk_drew hblk, hcur, hj⟩, below_drew1 hI.out.bel⟩
            have hcp9 : (Builtin.copy_ #[22, 22] 3 #[.slice (some ⟨g, n, none⟩) (m - n) (cap - n), .slice (some ⟨g, 0, none⟩) n cap]).run Try.prog wr.drew = .ok (.int .i64 ((min n (m - n) : Nat) : Int)) (wr.drew.setCells g n (List.replicate (min n (m - n)) (.int .i64 y))) := by
              obtain ⟨cur, hblk, hcur, hj⟩ := hI5.blk
              have h_ := run_copy_cells (P := Try.prog) wr.drew 22 22 3 2 g n (m - n) (cap - n) ⟨g, 0, none⟩ n cap (List.replicate (min n (m - n)) (.int .i64 y)) Try.underlying22 hinfo (by simp) (fun j v hj' => by
                have hjl : j < min n (m - n) := by have := (List.getElem?_eq_some_iff.1 hj').1; simpa using this
                have hv : v = .int .i64 y := by
                  rw [List.getElem?_replicate, if_pos hjl] at hj'
                  exact (Option.some.inj hj').symm
                subst hv
                rw [add0_, blk_cell hblk]
                exact hj j (by omega))
                (fun j hj' => by
                  have hjl : j < min n (m - n) := by simpa using hj'
                  rw [blk_cell hblk, Array.getElem?_eq_getElem (by omega)]
                  rfl)
                (fun j hj' => blk_frozen hblk _) (by intro v hv; rw [List.eq_of_mem_replicate hv]; rfl)
              rw [List.length_replicate] at h_
              exact h_
            have hI6 : RepI w (wr.drew.setCells g n (List.replicate (min n (m - n)) (.int .i64 y))) g cap m (n + min n (m - n)) y := hI5.fill hgw _ (by omega)
            generalize wr.drew.setCells g n (List.replicate (min n (m - n)) (.int .i64 y)) = w6 at hcp9 hI6
            have hw9 : wrap64 ((n : Int) + ((min n (m - n) : Nat) : Int)) = ((n + min n (m - n) : Nat) : Int) := by unfold wrap64; omega
            refine start_ (n := 10) (S := fun _ => True) (ds := []) (bm_ 10 0) (by kernel_rfl) rfl rfl trivial (fun hHeld => ?_)
            refine pure_ (i := 0) (N := some 38) (v := ?_) (a' := ?_) (bm_ 10 1) rfl rfl (by kernel_rfl) (fun _ _ _ h => h) (Or.inl ⟨by rfl, ?_⟩) ?_ ?_; rotate_left
            · intro w'; go_simp; (with_reducible rfl)
            rotate_left
            · simp only [Act.put, List.setIfInBounds_toArray, List.set_cons_zero, List.set_cons_succ]; rfl
            refine pure_ (i := 1) (N := some 39) (v := ?_) (a' := ?_) (bm_ 10 3) rfl rfl (by kernel_rfl) (fun _ _ _ h => h) (Or.inl ⟨by rfl, ?_⟩) ?_ ?_; rotate_left
            · intro w'; go_simp; (with_reducible rfl)
            rotate_left
            · simp only [Act.put, List.setIfInBounds_toArray, List.set_cons_zero, List.set_cons_succ]; rfl
            refine pure_ (i := 2) (N := some 40) (v := ?_) (a' := ?_) (bm_ 10 7) rfl rfl (by kernel_rfl) (fun _ _ _ h => h) (Or.inl ⟨by rfl, ?_⟩) ?_ ?_; rotate_left
            · intro w'; go_simp; (with_reducible rfl)
            rotate_left
            · simp only [Act.put, List.setIfInBounds_toArray, List.set_cons_zero, List.set_cons_succ]; rfl
            refine pure_ (i := 3) (N := some 41) (v := ?_) (a' := ?_) (bm_ 10 15) rfl rfl (by kernel_rfl) (fun _ _ _ h => h) (Or.inl ⟨by rfl, ?_⟩) ?_ ?_; rotate_left
            · intro w'; go_simp; (with_reducible rfl)
            rotate_left
            · simp only [Act.put, List.setIfInBounds_toArray, List.set_cons_zero, List.set_cons_succ]; rfl
            refine pure_ (i := 4) (N := some 42) (v := ?_) (a' := ?_) (bm_ 10 31) rfl rfl (by kernel_rfl) (fun _ _ _ h => h) (Or.inl ⟨by rfl, ?_⟩) ?_ ?_; rotate_left
            · intro w'; go_simp; (with_reducible rfl)
            rotate_left
            · simp only [Act.put, List.setIfInBounds_toArray, List.set_cons_zero, List.set_cons_succ]; rfl
            refine pure_ (i := 5) (N := some 43) (v := ?_) (a' := ?_) (bm_ 10 63) rfl rfl (by kernel_rfl) (fun _ _ _ h => h) (Or.inl ⟨by rfl, ?_⟩) ?_ ?_; rotate_left
            · intro w'; go_simp; (with_reducible rfl)
            rotate_left
            · simp only [Act.put, List.setIfInBounds_toArray, List.set_cons_zero, List.set_cons_succ]; rfl
            refine pure_ (i := 6) (N := some 44) (v := ?_) (a' := ?_) (bm_ 10 127) rfl rfl (by kernel_rfl) (fun _ _ _ h => h) (Or.inl ⟨by rfl, ?_⟩) ?_ ?_; rotate_left
            · intro w'; go_simp; (with_reducible rfl)
            rotate_left
            · simp only [Act.put, List.setIfInBounds_toArray, List.set_cons_zero, List.set_cons_succ]; rfl
            refine one_ (i := 7) (N := some 45) (bm_ 10 255) rfl rfl (by kernel_rfl) (by decide) (fun K hK => ?_)
            refine copy_step (N := some 45) (by rfl) rfl (.tmp 41) (.tmp 44) 22 22 rfl rfl rfl hcp9 ?_
            refine hK.out _ _ trivial (fun _ => ?_)
            refine pure_ (i := 8) (N := some 46) (v := ?_) (a' := ?_) (bm_ 10 511) rfl rfl (by kernel_rfl) (fun _ _ _ h => h) (Or.inl ⟨by rfl, ?_⟩) ?_ ?_; rotate_left
            · intro w'; go_simp; (with_reducible rfl)
            rotate_left
            · simp only [Act.put, List.setIfInBounds_toArray, List.set_cons_zero, List.set_cons_succ]; rfl
            refine pure_ (i := 9) (N := some 8) (v := ?_) (a' := ?_) (bm_ 10 1023) rfl rfl (by kernel_rfl) (fun _ _ _ h => h) (Or.inl ⟨by rfl, ?_⟩) ?_ ?_; rotate_left
            · intro w'; go_simp; (with_reducible rfl)
            rotate_left
            · simp only [Act.put, List.setIfInBounds_toArray, List.set_cons_zero, List.set_cons_succ]; rfl
            refine done_ (by kernel_rfl) ?_
            (try go_wp2)
            go_roundg k1
            case measure => exact hk1
            case rel => exact ⟨n + min n (m - n), by first | rfl | (rw [hw9]) | (rw [i64_w, hw9]), ⟨hfin⟩, ⟨hI6⟩⟩
          · have d1 : decide ((n : Int) < (m : Int)) = false := decide_eq_false (by omega)
            obtain rfl : n = m := by omega
            go_wp2
            go_ret
            exact ⟨_, rfl, hI.out.row hgw hmc hcm, hI.out.bel⟩
      · rw [if_neg c3] at h; exact absurd h (by simp)
    · rw [if_neg c2] at h; exact absurd h (by simp)
  · rw [if_neg c1] at h; exact absurd h (by simp)

/-! ### impl_floorMod: function 121 -/
def impl_floorMod.f (a0 : Int) (a1 : Int) : Option (Int) := if a1 = 0 then (none) else (some (Int.tmod (wrap64 ((Int.tmod a0 a1) + a1)) a1))
set_option maxHeartbeats 8000000 in
set_option maxRecDepth 100000 in
theorem impl_floorMod.calls (a0 : Int) (a1 : Int) (r : Int) (w : World) (h : impl_floorMod.f a0 a1 = some r) :
    Calls Try.prog 121 #[.int .i64 a0, .int .i64 a1] w fun e w' => e = .returned (.int .i64 r) ∧ Drawn0 w w' := by
 have H : (if a1 = 0 then (none) else (some (Int.tmod (wrap64 ((Int.tmod a0 a1) + a1)) a1))) = some r := h; clear h; by_cases c3 : a1 = 0
 · rw [if_pos c3] at H; exact absurd H (by simp)
 · rw [if_neg c3] at H; have c3b0 : (a1 == 0) = false := beq_eq_false_iff_ne.mpr c3; have c3b1 : (a1 != 0) = true := bne_iff_ne.mpr c3; obtain rfl := Option.some.inj H; go_enter Try.func121, Try.ntmps121; go_wp2; go_ret; exact ⟨by first | rfl | (simp; done) | (simp [i64_w, i32_w]; done) | (simp [*]; done) | (simp [*, i64_w, i32_w]; done), by repeat (first | exact Drawn0.refl _ | apply Drawn0.step)⟩

/-! ### impl_learn: function 88 -/
mutual
def impl_learn.j0 : Nat → Int → Int → List (List Int) → List (List Int) → Bool → Option (List Int × Bool)
  | 0, _, _, _, _, _ => none
  | k + 1, x0, x1, x2, x3, x43 => if x43 = true then (some (([] : List Int), false)) else ((impl_Rule_cells.f x0 x1 ([] : List Int)).bind fun t170 => ((impl_raised.f k x0 t170).bind fun t171 => ((slices_Repeat_int64_int64.f (([(-1)] : List Int)) t171).bind fun t172 => (impl_learn.l0 k x0 x1 x3 t172 x2 (x2.length : Int) 0 x0 x1))))
def impl_learn.l0 : Nat → Int → Int → List (List Int) → List Int → List (List Int) → Int → Int → Int → Int → Option (List Int × Bool)
  | 0, _, _, _, _, _, _, _, _, _ => none
  | k + 1, x0, x1, x3, x11, x53, x54, x55, x167000, x167001 => if x55 < x54 then (if 0 ≤ x55 then (if x55 < (x53.length : Int) then ((impl_IsRing.f k (rd_L1 x53 x55) x0).bind fun t176 => (if t176 = true then (if x55 < (x3.length : Int) then ((impl_IsRing.f k (rd_L1 x3 x55) x0).bind fun t178 => (if t178 = true then (if ((rd_L1 x53 x55).length : Int) = ((rd_L1 x3 x55).length : Int) then ((impl_Rule_cells.f x167000 x167001 ([] : List Int)).bind fun t180 => (impl_learn.j2 k x0 x1 x3 x11 x55 (rd_L1 x53 x55) x53 x54 x55 (decide (((rd_L1 x53 x55).length : Int) < t180)) x167000 x167001)) else (impl_learn.j2 k x0 x1 x3 x11 x55 (rd_L1 x53 x55) x53 x54 x55 true x167000 x167001)) else (impl_learn.j2 k x0 x1 x3 x11 x55 (rd_L1 x53 x55) x53 x54 x55 true x167000 x167001))) else (none)) else (impl_learn.j2 k x0 x1 x3 x11 x55 (rd_L1 x53 x55) x53 x54 x55 true x167000 x167001))) else (none)) else (none)) else (some (x11, true))
def impl_learn.j2 : Nat → Int → Int → List (List Int) → List Int → Int → List Int → List (List Int) → Int → Int → Bool → Int → Int → Option (List Int × Bool)
  | 0, _, _, _, _, _, _, _, _, _, _, _, _ => none
  | k + 1, x0, x1, x3, x11, x12, x13, x53, x54, x55, x89, x167000, x167001 => if x89 = true then (some (([] : List Int), false)) else (if 0 ≤ x12 then (if x12 < (x3.length : Int) then (impl_learn.l1 k x0 x1 x3 x11 x13 x53 x54 x55 (rd_L1 x3 x12) ((rd_L1 x3 x12).length : Int) 0 x167000 x167001) else (none)) else (none))
def impl_learn.l1 : Nat → Int → Int → List (List Int) → List Int → List Int → List (List Int) → Int → Int → List Int → Int → Int → Int → Int → Option (List Int × Bool)
  | 0, _, _, _, _, _, _, _, _, _, _, _, _, _ => none
  | k + 1, x0, x1, x3, x11, x13, x53, x54, x55, x93, x94, x95, x167000, x167001 => if x95 < x94 then (if 0 ≤ x95 then (if x95 < (x93.length : Int) then (impl_learn.l2 k x0 x1 x3 x11 x13 x95 (rd x93 x95) 0 (wrap64 (x95 - x1)) x53 x54 x55 x93 x94 x95 x167000 x167001) else (none)) else (none)) else (impl_learn.l0 k x0 x1 x3 x11 x53 x54 (wrap64 (x55 + 1)) x167000 x167001)
def impl_learn.l2 : Nat → Int → Int → List (List Int) → List Int → List Int → Int → Int → Int → Int → List (List Int) → Int → Int → List Int → Int → Int → Int → Int → Option (List Int × Bool)
  | 0, _, _, _, _, _, _, _, _, _, _, _, _, _, _, _, _, _ => none
  | k + 1, x0, x1, x3, x11, x13, x14, x15, x16, x17, x53, x54, x55, x93, x94, x95, x167000, x167001 => if x17 ≤ (wrap64 (x14 + x1)) then ((impl_floorMod.f x17 (x13.length : Int)).bind fun t183 => (if 0 ≤ t183 then (if t183 < (x13.length : Int) then (impl_learn.l2 k x0 x1 x3 x11 x13 x14 x15 (wrap64 ((wrap64 (x16 * x0)) + (rd x13 t183))) (wrap64 (x17 + 1)) x53 x54 x55 x93 x94 x95 x167000 x167001) else (none)) else (none))) else (if 0 ≤ x16 then (if x16 < (x11.length : Int) then (if (rd x11 x16) ≥ 0 then (if (rd x11 x16) = x15 then (impl_learn.l1 k x0 x1 x3 (x11.set (x16 : Int).toNat x15) x13 x53 x54 x55 x93 x94 (wrap64 (x95 + 1)) x167000 x167001) else (some (([] : List Int), false))) else (impl_learn.l1 k x0 x1 x3 (x11.set (x16 : Int).toNat x15) x13 x53 x54 x55 x93 x94 (wrap64 (x95 + 1)) x167000 x167001)) else (none)) else (none))
end
def impl_learn.f (k : Nat) (a0 : Int) (a1 : Int) (l2 : List (List Int)) (l3 : List (List Int)) : Option (List Int × Bool) := (impl_areStates.f a0).bind fun t164 => (if t164 = true then ((impl_isReach.f a1).bind fun t165 => (if t165 = true then (if (l2.length : Int) < 1 then (impl_learn.j0 k a0 a1 l2 l3 true) else (if (l2.length : Int) > 32 then (impl_learn.j0 k a0 a1 l2 l3 true) else (impl_learn.j0 k a0 a1 l2 l3 ((l2.length : Int) != (l3.length : Int))))) else (impl_learn.j0 k a0 a1 l2 l3 true))) else (impl_learn.j0 k a0 a1 l2 l3 true))
theorem impl_learn.mono_l : ∀ k, (∀ y0 y1 y2 y3 y4, LeO (impl_learn.j0 k y0 y1 y2 y3 y4) (impl_learn.j0 (k + 1) y0 y1 y2 y3 y4)) ∧ (∀ y0 y1 y2 y3 y4 y5 y6 y7 y8, LeO (impl_learn.l0 k y0 y1 y2 y3 y4 y5 y6 y7 y8) (impl_learn.l0 (k + 1) y0 y1 y2 y3 y4 y5 y6 y7 y8)) ∧ (∀ y0 y1 y2 y3 y4 y5 y6 y7 y8 y9 y10 y11, LeO (impl_learn.j2 k y0 y1 y2 y3 y4 y5 y6 y7 y8 y9 y10 y11) (impl_learn.j2 (k + 1) y0 y1 y2 y3 y4 y5 y6 y7 y8 y9 y10 y11)) ∧ (∀ y0 y1 y2 y3 y4 y5 y6 y7 y8 y9 y10 y11 y12, LeO (impl_learn.l1 k y0 y1 y2 y3 y4 y5 y6 y7 y8 y9 y10 y11 y12) (impl_learn.l1 (k + 1) y0 y1 y2 y3 y4 y5 y6 y7 y8 y9 y10 y11 y12)) ∧ (∀ y0 y1 y2 y3 y4 y5 y6 y7 y8 y9 y10 y11 y12 y13 y14 y15 y16, LeO (impl_learn.l2 k y0 y1 y2 y3 y4 y5 y6 y7 y8 y9 y10 y11 y12 y13 y14 y15 y16) (impl_learn.l2 (k + 1) y0 y1 y2 y3 y4 y5 y6 y7 y8 y9 y10 y11 y12 y13 y14 y15 y16))
  | 0 => ⟨fun _ _ _ _ _ r h => by simp [impl_learn.j0] at h, fun _ _ _ _ _ _ _ _ _ r h => by simp [impl_learn.l0] at h, fun _ _ _ _ _ _ _ _ _ _ _ _ r h => by simp [impl_learn.j2] at h, fun _ _ _ _ _ _ _ _ _ _ _ _ _ r h => by simp [impl_learn.l1] at h, fun _ _ _ _ _ _ _ _ _ _ _ _ _ _ _ _ _ r h => by simp [impl_learn.l2] at h⟩
  | k + 1 => by
    obtain ⟨ih0, ih1, ih2, ih3, ih4⟩ := impl_learn.mono_l k
    refine ⟨?_, ?_, ?_, ?_, ?_⟩
    · intro y0 y1 y2 y3 y4
      unfold impl_learn.j0
      repeat' first
      | (with_reducible exact ih0 _ _ _ _ _)
      | (with_reducible exact ih1 _ _ _ _ _ _ _ _ _)
      | (with_reducible exact ih2 _ _ _ _ _ _ _ _ _ _ _ _)
      | (with_reducible exact ih3 _ _ _ _ _ _ _ _ _ _ _ _ _)
      | (with_reducible exact ih4 _ _ _ _ _ _ _ _ _ _ _ _ _ _ _ _ _)
      | (with_reducible exact impl_IsRing.mono _ _ _)
      | (with_reducible exact impl_raised.mono _ _ _)
      | (with_reducible exact LeO.refl _)
      | (with_reducible exact LeO.none _)
      | (with_reducible refine LeO.ite ?_ ?_)
      | (with_reducible refine LeO.bind ?_ (fun _ => ?_))
      | exact ih0 _ _ _ _ _
      | exact ih1 _ _ _ _ _ _ _ _ _
      | exact ih2 _ _ _ _ _ _ _ _ _ _ _ _
      | exact ih3 _ _ _ _ _ _ _ _ _ _ _ _ _
      | exact ih4 _ _ _ _ _ _ _ _ _ _ _ _ _ _ _ _ _
      | exact impl_IsRing.mono _ _ _
      | exact impl_raised.mono _ _ _
      | exact LeO.none _
      | refine LeO.ite ?_ ?_
      | refine LeO.bind ?_ (fun _ => ?_)
    · intro y0 y1 y2 y3 y4 y5 y6 y7 y8
      unfold impl_learn.l0
      repeat' first
      | (with_reducible exact ih0 _ _ _ _ _)
      | (with_reducible exact ih1 _ _ _ _ _ _ _ _ _)
      | (with_reducible exact ih2 _ _ _ _ _ _ _ _ _ _ _ _)
      | (with_reducible exact ih3 _ _ _ _ _ _ _ _ _ _ _ _ _)
      | (with_reducible exact ih4 _ _ _ _ _ _ _ _ _ _ _ _ _ _ _ _ _)
      | (with_reducible exact impl_IsRing.mono _ _ _)
      | (with_reducible exact impl_raised.mono _ _ _)
      | (with_reducible exact LeO.refl _)
      | (with_reducible exact LeO.none _)
      | (with_reducible refine LeO.ite ?_ ?_)
      | (with_reducible refine LeO.bind ?_ (fun _ => ?_))
      | exact ih0 _ _ _ _ _
      | exact ih1 _ _ _ _ _ _ _ _ _
      | exact ih2 _ _ _ _ _ _ _ _ _ _ _ _
      | exact ih3 _ _ _ _ _ _ _ _ _ _ _ _ _
      | exact ih4 _ _ _ _ _ _ _ _ _ _ _ _ _ _ _ _ _
      | exact impl_IsRing.mono _ _ _
      | exact impl_raised.mono _ _ _
      | exact LeO.none _
      | refine LeO.ite ?_ ?_
      | refine LeO.bind ?_ (fun _ => ?_)
    · intro y0 y1 y2 y3 y4 y5 y6 y7 y8 y9 y10 y11
      unfold impl_learn.j2
      repeat' first
      | (with_reducible exact ih0 _ _ _ _ _)
      | (with_reducible exact ih1 _ _ _ _ _ _ _ _ _)
      | (with_reducible exact ih2 _ _ _ _ _ _ _ _ _ _ _ _)
      | (with_reducible exact ih3 _ _ _ _ _ _ _ _ _ _ _ _ _)
      | (with_reducible exact ih4 _ _ _ _ _ _ _ _ _ _ _ _ _ _ _ _ _)
      | (with_reducible exact impl_IsRing.mono _ _ _)
      | (with_reducible exact impl_raised.mono _ _ _)
      | (with_reducible exact LeO.refl _)
      | (with_reducible exact LeO.none _)
      | (with_reducible refine LeO.ite ?_ ?_)
      | (with_reducible refine LeO.bind ?_ (fun _ => ?_))
      | exact ih0 _ _ _ _ _
      | exact ih1 _ _ _ _ _ _ _ _ _
      | exact ih2 _ _ _ _ _ _ _ _ _ _ _ _
      | exact ih3 _ _ _ _ _ _ _ _ _ _ _ _ _
      | exact ih4 _ _ _ _ _ _ _ _ _ _ _ _ _ _ _ _ _
      | exact impl_IsRing.mono _ _ _
      | exact impl_raised.mono _ _ _
      | exact LeO.none _
      | refine LeO.ite ?_ ?_
      | refine LeO.bind ?_ (fun _ => ?_)
    · intro y0 y1 y2 y3 y4 y5 y6 y7 y8 y9 y10 y11 y12
      unfold impl_learn.l1
      repeat' first
      | (with_reducible exact ih0 _ _ _ _ _)
      | (with_reducible exact ih1 _ _ _ _ _ _ _ _ _)
      | (with_reducible exact ih2 _ _ _ _ _ _ _ _ _ _ _ _)
      | (with_reducible exact ih3 _ _ _ _ _ _ _ _ _ _ _ _ _)
      | (with_reducible exact ih4 _ _ _ _ _ _ _ _ _ _ _ _ _ _ _ _ _)
      | (with_reducible exact impl_IsRing.mono _ _ _)
      | (with_reducible exact impl_raised.mono _ _ _)
      | (with_reducible exact LeO.refl _)
      | (with_reducible exact LeO.none _)
      | (with_reducible refine LeO.ite ?_ ?_)
      | (with_reducible refine LeO.bind ?_ (fun _ => ?_))
      | exact ih0 _ _ _ _ _
      | exact ih1 _ _ _ _ _ _ _ _ _
      | exact ih2 _ _ _ _ _ _ _ _ _ _ _ _
      | exact ih3 _ _ _ _ _ _ _ _ _ _ _ _ _
      | exact ih4 _ _ _ _ _ _ _ _ _ _ _ _ _ _ _ _ _
      | exact impl_IsRing.mono _ _ _
      | exact impl_raised.mono _ _ _
      | exact LeO.none _
      | refine LeO.ite ?_ ?_
      | refine LeO.bind ?_ (fun _ => ?_)
    · intro y0 y1 y2 y3 y4 y5 y6 y7 y8 y9 y10 y11 y12 y13 y14 y15 y16
      unfold impl_learn.l2
      repeat' first
      | (with_reducible exact ih0 _ _ _ _ _)
      | (with_reducible exact ih1 _ _ _ _ _ _ _ _ _)
      | (with_reducible exact ih2 _ _ _ _ _ _ _ _ _ _ _ _)
      | (with_reducible exact ih3 _ _ _ _ _ _ _ _ _ _ _ _ _)
      | (with_reducible exact ih4 _ _ _ _ _ _ _ _ _ _ _ _ _ _ _ _ _)
      | (with_reducible exact impl_IsRing.mono _ _ _)
      | (with_reducible exact impl_raised.mono _ _ _)
      | (with_reducible exact LeO.refl _)
      | (with_reducible exact LeO.none _)
      | (with_reducible refine LeO.ite ?_ ?_)
      | (with_reducible refine LeO.bind ?_ (fun _ => ?_))
      | exact ih0 _ _ _ _ _
      | exact ih1 _ _ _ _ _ _ _ _ _
      | exact ih2 _ _ _ _ _ _ _ _ _ _ _ _
      | exact ih3 _ _ _ _ _ _ _ _ _ _ _ _ _
      | exact ih4 _ _ _ _ _ _ _ _ _ _ _ _ _ _ _ _ _
      | exact impl_IsRing.mono _ _ _
      | exact impl_raised.mono _ _ _
      | exact LeO.none _
      | refine LeO.ite ?_ ?_
      | refine LeO.bind ?_ (fun _ => ?_)
theorem impl_learn.mono : ∀ a0 a1 a2 a3 k, LeO (impl_learn.f k a0 a1 a2 a3) (impl_learn.f (k + 1) a0 a1 a2 a3) := by
 intro a0 a1 a2 a3 k; obtain ⟨ih0, ih1, ih2, ih3, ih4⟩ := impl_learn.mono_l k; unfold impl_learn.f; repeat' first
  | (with_reducible exact ih0 _ _ _ _ _)
  | (with_reducible exact ih1 _ _ _ _ _ _ _ _ _)
  | (with_reducible exact ih2 _ _ _ _ _ _ _ _ _ _ _ _)
  | (with_reducible exact ih3 _ _ _ _ _ _ _ _ _ _ _ _ _)
  | (with_reducible exact ih4 _ _ _ _ _ _ _ _ _ _ _ _ _ _ _ _ _)
  | (with_reducible exact impl_IsRing.mono _ _ _)
  | (with_reducible exact impl_raised.mono _ _ _)
  | (with_reducible exact LeO.refl _)
  | (with_reducible exact LeO.none _)
  | (with_reducible refine LeO.ite ?_ ?_)
  | (with_reducible refine LeO.bind ?_ (fun _ => ?_))
  | exact ih0 _ _ _ _ _
  | exact ih1 _ _ _ _ _ _ _ _ _
  | exact ih2 _ _ _ _ _ _ _ _ _ _ _ _
  | exact ih3 _ _ _ _ _ _ _ _ _ _ _ _ _
  | exact ih4 _ _ _ _ _ _ _ _ _ _ _ _ _ _ _ _ _
  | exact impl_IsRing.mono _ _ _
  | exact impl_raised.mono _ _ _
  | exact LeO.none _
  | refine LeO.ite ?_ ?_
  | refine LeO.bind ?_ (fun _ => ?_)
set_option maxHeartbeats 8000000 in
set_option maxRecDepth 100000 in
theorem impl_learn.calls (k : Nat) (a0 : Int) (a1 : Int) (A2 : Option Addr) (c2 : Nat) (l2 : List (List Int)) (A3 : Option Addr) (c3 : Nat) (l3 : List (List Int)) (r1 : List Int) (r2 : Bool) (w : World) (hr2 : Kd.C (Kd.slice 2 (Kd.int .i64)) w A2 l2.length l2) (hc2 : l2.length ≤ c2) (hr3 : Kd.C (Kd.slice 2 (Kd.int .i64)) w A3 l3.length l3) (hc3 : l3.length ≤ c3) (h : impl_learn.f k a0 a1 l2 l3 = some (r1, r2)) :
    Calls Try.prog 88 #[.int .i64 a0, .int .i64 a1, .slice A2 l2.length c2, .slice A3 l3.length c3] w fun e w' => ∃ v0_ : Value, e = .returned (.tuple #[v0_, .bool r2]) ∧ Kd.R (Kd.int .i64) 2 w' w.heap.size (fun _ => True) v0_ r1 ∧ Below w.heap.size w w' := by
 have hu38 := Try.underlying38; have HR2 := Aside0.mk hr2; have HC2 := Aside0.mk hc2; clear hr2 hc2; have HR3 := Aside0.mk hr3; have HC3 := Aside0.mk hc3; clear hr3 hc3; have HB := Aside0.mk (Below.refl w.heap.size w); have H : ((impl_areStates.f a0).bind fun t164 => (if t164 = true then ((impl_isReach.f a1).bind fun t165 => (if t165 = true then (if (l2.length : Int) < 1 then (impl_learn.j0 k a0 a1 l2 l3 true) else (if (l2.length : Int) > 32 then (impl_learn.j0 k a0 a1 l2 l3 true) else (impl_learn.j0 k a0 a1 l2 l3 ((l2.length : Int) != (l3.length : Int))))) else (impl_learn.j0 k a0 a1 l2 l3 true))) else (impl_learn.j0 k a0 a1 l2 l3 true))) = some (r1, r2) := h; clear h; have HC5 := Aside0.mk H; clear H; go_enter Try.func88, Try.ntmps88; go_upto_region 1 with (fail); go_cut [43] (fun v43 wc => ∃ (kq : Nat) (x43_4 : Bool), v43 = .bool x43_4 ∧ Aside0 (impl_learn.j0 kq a0 a1 l2 l3 x43_4 = some (r1, r2)) ∧ Aside0 (kq ≤ k) ∧ Aside0 (Below w.heap.size w wc)); case first =>
  have H := HC5.out; clear HC5; replace H := Option.bind_eq_some_iff.mp H; obtain ⟨t164, A60, H⟩ := H; replace H : (if t164 = true then ((impl_isReach.f a1).bind fun t165 => (if t165 = true then (if (l2.length : Int) < 1 then (impl_learn.j0 k a0 a1 l2 l3 true) else (if (l2.length : Int) > 32 then (impl_learn.j0 k a0 a1 l2 l3 true) else (impl_learn.j0 k a0 a1 l2 l3 ((l2.length : Int) != (l3.length : Int))))) else (impl_learn.j0 k a0 a1 l2 l3 true))) else (impl_learn.j0 k a0 a1 l2 l3 true)) = some (r1, r2) := H; have A6 := Aside0.mk A60; clear A60; by_cases c7 : t164 = true
  · subst c7; have H1 : ((impl_isReach.f a1).bind fun t165 => (if t165 = true then (if (l2.length : Int) < 1 then (impl_learn.j0 k a0 a1 l2 l3 true) else (if (l2.length : Int) > 32 then (impl_learn.j0 k a0 a1 l2 l3 true) else (impl_learn.j0 k a0 a1 l2 l3 ((l2.length : Int) != (l3.length : Int))))) else (impl_learn.j0 k a0 a1 l2 l3 true))) = some (r1, r2) := by rw [if_pos rfl] at H; exact H
    clear H; have H := H1; clear H1; replace H := Option.bind_eq_some_iff.mp H; obtain ⟨t165, A80, H⟩ := H; replace H : (if t165 = true then (if (l2.length : Int) < 1 then (impl_learn.j0 k a0 a1 l2 l3 true) else (if (l2.length : Int) > 32 then (impl_learn.j0 k a0 a1 l2 l3 true) else (impl_learn.j0 k a0 a1 l2 l3 ((l2.length : Int) != (l3.length : Int))))) else (impl_learn.j0 k a0 a1 l2 l3 true)) = some (r1, r2) := H; have A8 := Aside0.mk A80; clear A80; by_cases c9 : t165 = true
    · subst c9; have H1 : (if (l2.length : Int) < 1 then (impl_learn.j0 k a0 a1 l2 l3 true) else (if (l2.length : Int) > 32 then (impl_learn.j0 k a0 a1 l2 l3 true) else (impl_learn.j0 k a0 a1 l2 l3 ((l2.length : Int) != (l3.length : Int))))) = some (r1, r2) := by rw [if_pos rfl] at H; exact H
      clear H; have H := H1; clear H1; by_cases c10 : (l2.length : Int) < 1
      · rw [if_pos c10] at H; have c10b0 : decide ((l2.length : Int) < 1) = true := decide_eq_true c10; have c10b1 : decide (l2.length < 1) = true := decide_eq_true (by omega); clear c10; (first | rw [c10b0] | (simp only [i64_w, i32_w]; rw [c10b0]) | skip); have H' := Aside0.mk H; clear H; go_wp2_with (first | ((with_reducible refine gate_callee (f := 71) rfl ?_); refine gL_ (some 20) Try.func71 #[.int .i64 a0] ?_; (with_reducible refine (impl_areStates.calls a0 true _ A6.out).mono ?_); rintro e w' ⟨rfl, ⟨nd, rfl⟩⟩; refine ⟨_, rfl, ?_⟩) | (go_at_call 72; (with_reducible refine (impl_isReach.calls a1 true _ A8.out).mono ?_); rintro e w' ⟨rfl, ⟨nd, rfl⟩⟩)); go_meet; case rel => exact ⟨_, (true), (by first | rfl | (simp; done) | (simp [i64_w, i32_w]; done) | (simp [*]; done) | (simp [*, i64_w, i32_w]; done)), H', ⟨by first | omega | exact Nat.le_refl _⟩, ⟨bk_ HB.out⟩⟩
      · rw [if_neg c10] at H; have c10b0 : decide ((l2.length : Int) < 1) = false := decide_eq_false c10; have c10b1 : decide (l2.length < 1) = false := decide_eq_false (by omega); clear c10; (first | rw [c10b0] | (simp only [i64_w, i32_w]; rw [c10b0]) | skip); by_cases c11 : (l2.length : Int) > 32
        · rw [if_pos c11] at H; have c11b0 : decide (32 < (l2.length : Int)) = true := decide_eq_true c11; have c11b1 : decide (32 < l2.length) = true := decide_eq_true (by omega); clear c11; have H' := Aside0.mk H; clear H; go_wp2_with (first | ((with_reducible refine gate_callee (f := 71) rfl ?_); refine gL_ (some 20) Try.func71 #[.int .i64 a0] ?_; (with_reducible refine (impl_areStates.calls a0 true _ A6.out).mono ?_); rintro e w' ⟨rfl, ⟨nd, rfl⟩⟩; refine ⟨_, rfl, ?_⟩) | (go_at_call 72; (with_reducible refine (impl_isReach.calls a1 true _ A8.out).mono ?_); rintro e w' ⟨rfl, ⟨nd, rfl⟩⟩)); go_meet; case rel => exact ⟨_, (true), (by first | rfl | (simp; done) | (simp [i64_w, i32_w]; done) | (simp [*]; done) | (simp [*, i64_w, i32_w]; done)), H', ⟨by first | omega | exact Nat.le_refl _⟩, ⟨bk_ HB.out⟩⟩
        · rw [if_neg c11] at H; have c11b0 : decide (32 < (l2.length : Int)) = false := decide_eq_false c11; have c11b1 : decide (32 < l2.length) = false := decide_eq_false (by omega); clear c11; have H' := Aside0.mk H; clear H; go_wp2_with (first | ((with_reducible refine gate_callee (f := 71) rfl ?_); refine gL_ (some 20) Try.func71 #[.int .i64 a0] ?_; (with_reducible refine (impl_areStates.calls a0 true _ A6.out).mono ?_); rintro e w' ⟨rfl, ⟨nd, rfl⟩⟩; refine ⟨_, rfl, ?_⟩) | (go_at_call 72; (with_reducible refine (impl_isReach.calls a1 true _ A8.out).mono ?_); rintro e w' ⟨rfl, ⟨nd, rfl⟩⟩)); go_meet; case rel => exact ⟨_, (((l2.length : Int) != (l3.length : Int))), (by first | rfl | (simp; done) | (simp [i64_w, i32_w]; done) | (simp [*]; done) | (simp [*, i64_w, i32_w]; done)), H', ⟨by first | omega | exact Nat.le_refl _⟩, ⟨bk_ HB.out⟩⟩
    · replace c9 := Bool.eq_false_iff.mpr c9; subst c9; have H1 : (impl_learn.j0 k a0 a1 l2 l3 true) = some (r1, r2) := by rw [if_neg (show ¬ (false = true) by decide)] at H; exact H
      clear H; have H := H1; clear H1; have H' := Aside0.mk H; clear H; go_wp2_with (first | ((with_reducible refine gate_callee (f := 71) rfl ?_); refine gL_ (some 20) Try.func71 #[.int .i64 a0] ?_; (with_reducible refine (impl_areStates.calls a0 true _ A6.out).mono ?_); rintro e w' ⟨rfl, ⟨nd, rfl⟩⟩; refine ⟨_, rfl, ?_⟩) | (go_at_call 72; (with_reducible refine (impl_isReach.calls a1 false _ A8.out).mono ?_); rintro e w' ⟨rfl, ⟨nd, rfl⟩⟩)); go_meet; case rel => exact ⟨_, (true), (by first | rfl | (simp; done) | (simp [i64_w, i32_w]; done) | (simp [*]; done) | (simp [*, i64_w, i32_w]; done)), H', ⟨by first | omega | exact Nat.le_refl _⟩, ⟨bk_ HB.out⟩⟩
  · replace c7 := Bool.eq_false_iff.mpr c7; subst c7; have H1 : (impl_learn.j0 k a0 a1 l2 l3 true) = some (r1, r2) := by rw [if_neg (show ¬ (false = true) by decide)] at H; exact H
    clear H; have H := H1; clear H1; have H' := Aside0.mk H; clear H; go_wp2_with (first | ((with_reducible refine gate_callee (f := 71) rfl ?_); refine gL_ (some 20) Try.func71 #[.int .i64 a0] ?_; (with_reducible refine (impl_areStates.calls a0 false _ A6.out).mono ?_); rintro e w' ⟨rfl, ⟨nd, rfl⟩⟩; refine ⟨_, rfl, ?_⟩)); go_meet; case rel => exact ⟨_, (true), (by first | rfl | (simp; done) | (simp [i64_w, i32_w]; done) | (simp [*]; done) | (simp [*, i64_w, i32_w]; done)), H', ⟨by first | omega | exact Nat.le_refl _⟩, ⟨bk_ HB.out⟩⟩
 case rest =>
  clear HC5; (try clear c1); (try clear c2); (try clear p2); (try clear c3); (try clear c7); (try clear c8); (try clear c9); (try clear c10); (try clear c10b0); (try clear c10b1); (try clear c11); (try clear c11b0); (try clear c11b1); obtain ⟨kq, x43_4, rfl, HA, HJ4, HB⟩ := hcut; cases kq with
  | zero => exact absurd HA.out (by simp [impl_learn.j0])
  | succ kj4 =>
   have H := HA.out; clear HA; simp only [impl_learn.j0] at H; by_cases c12 : x43_4 = true
   · subst c12; have H1 : (some (([] : List Int), false)) = some (r1, r2) := by rw [if_pos rfl] at H; exact H
     clear H; have H := H1; clear H1; simp only [Option.some.injEq, Prod.mk.injEq] at H; obtain ⟨rfl, rfl⟩ := H; go_wp2; go_ret2; exact ⟨_, by first | rfl | (simp [errW_none, errW_some] <;> rfl) | (simp [*, errW_none, errW_some] <;> rfl), by first | exact Kd.R_nil _ _ _ _ _ | exact Kd.N_nil _ _ _ _ _ | exact Kd.V_nil _ _ _ _ _ | exact Kd.Q_nil _ _ _ _ _ | exact Kd.S_nil _ _ _ _ _, bk_ HB.out⟩
   · replace c12 := Bool.eq_false_iff.mpr c12; subst c12; have H1 : ((impl_Rule_cells.f a0 a1 ([] : List Int)).bind fun t170 => ((impl_raised.f kj4 a0 t170).bind fun t171 => ((slices_Repeat_int64_int64.f (([(-1)] : List Int)) t171).bind fun t172 => (impl_learn.l0 kj4 a0 a1 l3 t172 l2 (l2.length : Int) 0 a0 a1)))) = some (r1, r2) := by rw [if_neg (show ¬ (false = true) by decide)] at H; exact H
     clear H; have H := H1; clear H1; obtain ⟨y167, hy167⟩ : ∃ y_ : List Int, y_ = (([(-1)] : List Int)) := ⟨_, rfl⟩; replace H : ((impl_Rule_cells.f a0 a1 ([] : List Int)).bind fun t170 => ((impl_raised.f kj4 a0 t170).bind fun t171 => ((slices_Repeat_int64_int64.f y167 t171).bind fun t172 => (impl_learn.l0 kj4 a0 a1 l3 t172 l2 (l2.length : Int) 0 a0 a1)))) = some (r1, r2) := by first | (rw [hy167]; with_reducible exact H) | (have H2_ := (Option.bind_some _ _).symm.trans H; rw [hy167]; with_reducible exact H2_) | (have H2_ := (Option.bind_some _ _).symm.trans H; with_reducible exact H2_) | with_reducible exact H | (rw [hy167]; exact H) | exact H
     have Ny167 := Aside0.mk hy167; clear hy167; replace H := Option.bind_eq_some_iff.mp H; obtain ⟨t170, A130, H⟩ := H; replace H : ((impl_raised.f kj4 a0 t170).bind fun t171 => ((slices_Repeat_int64_int64.f y167 t171).bind fun t172 => (impl_learn.l0 kj4 a0 a1 l3 t172 l2 (l2.length : Int) 0 a0 a1))) = some (r1, r2) := H; have A13 := Aside0.mk A130; clear A130; replace H := Option.bind_eq_some_iff.mp H; obtain ⟨t171, A140, H⟩ := H; replace H : ((slices_Repeat_int64_int64.f y167 t171).bind fun t172 => (impl_learn.l0 kj4 a0 a1 l3 t172 l2 (l2.length : Int) 0 a0 a1)) = some (r1, r2) := H; have A14 := Aside0.mk A140; clear A140; replace H := Option.bind_eq_some_iff.mp H; obtain ⟨t172, A150, H⟩ := H; replace H : (impl_learn.l0 kj4 a0 a1 l3 t172 l2 (l2.length : Int) 0 a0 a1) = some (r1, r2) := H; have A15 := Aside0.mk A150; clear A150; have H' := Aside0.mk H; clear H; go_wp2_with (first | ((with_reducible refine gate_dst (N := 10) rfl ?_); (try (refine gate_guard (by rfl) ?_; dsimp only)); refine box_event ?hg (N := 10) ?hd (cs := #[.int .i64 0, .int .i64 0, .slice none 0 0]) (t := 38) ?hr ?_; (case hd => rfl); (case hg => rfl); (case hr => first | (go_simp; done) | (go_simp; rfl)); intro gb166 hg w16 hbox hb; have n0_ := Aside0.mk (below_step (bk_ HB.out) hb); have n1_ := Aside0.mk (hbox); have n2_ := Aside0.mk ((by rw [hg]; exact (below_size (bk_ HB.out)) : w.heap.size ≤ gb166)); have n3_ := Aside0.mk ((by rw [hg]; exact (below_size (bk_ HB.out)) : w.heap.size ≤ gb166)); clear HB; have HB := n0_; have BK166 := n1_; have GW166 := n2_; have GE166 := n3_; clear n0_ n1_ n2_ n3_ hb hbox hg; have hcz17_0 := bc_ BK166.out 0 (.int .i64 0); have hcz17_1 := bc_ BK166.out 1 (.int .i64 0); have hcz17_2 := bc_ BK166.out 2 (.slice none 0 0); have hfz17_0 := blk_frozen BK166.out 0; have hfz17_1 := blk_frozen BK166.out 1; have hfz17_2 := blk_frozen BK166.out 2) | ((with_reducible refine gate_dst (N := 47) rfl ?_); (try (refine gate_guard (by rfl) ?_; dsimp only)); refine Kd.R_lit (Kd.int .i64) _ 2 ?hg (N := 47) ?hd (xs := ([(-1)] : List Int)) (inner := [.int .i64 (-1)]) (ok := fun _ => True) (okp := fun _ => True) ?hr ?hp (fun _ hk => hk) trivial (Below.refl _ _) (Nat.le_refl _) (by simp) ?_; (case hd => rfl); (case hg => rfl); (case hr => first | (go_simp; done) | (go_simp; rfl)); (case hp => exact (Reps.one (show Kd.M (Kd.int .i64) _ _ _ (-1) [.int .i64 (-1)] from rfl) (Reps.none _ _))); intro v168 w18 ho19 hb hg_ hnew_; clear hg_ hnew_; (first | rw [← Ny167.out] at ho19 | (simp only [Int.reduceToNat] at ho19; rw [← Ny167.out] at ho19)); have n0_ := Aside0.mk (Kd.R_lower ho19 (below_size (bk_ HB.out))); have n1_ := Aside0.mk (blk_below (g := gb166) (o := .cells #[.int .i64 a0, .int .i64 a1, .slice none 0 0] 38 (0, 0)) (by (with_reducible repeat (first | refine blk_drewN ?_ _ | refine blk_drew ?_ | refine blk_alloc ?_ _)); refine blk_put (cs := #[.int .i64 a0, .int .i64 a1, .slice none 0 0]) ?_ 2 _ rfl; (with_reducible repeat (first | refine blk_drewN ?_ _ | refine blk_drew ?_ | refine blk_alloc ?_ _)); refine blk_put (cs := #[.int .i64 a0, .int .i64 0, .slice none 0 0]) ?_ 1 _ rfl; (with_reducible repeat (first | refine blk_drewN ?_ _ | refine blk_drew ?_ | refine blk_alloc ?_ _)); refine blk_put (cs := #[.int .i64 0, .int .i64 0, .slice none 0 0]) ?_ 0 _ rfl; (with_reducible repeat (first | refine blk_drewN ?_ _ | refine blk_drew ?_ | refine blk_alloc ?_ _)); exact BK166.out) hb); have n2_ := Aside0.mk (below_step (bk_ HB.out) hb); clear BK166 HB; have HO169 := n0_; have BK166 := n1_; have HB := n2_; clear n0_ n1_ n2_ hb ho19; have hcz20_0 := bc_ BK166.out 0 (.int .i64 a0); have hcz20_1 := bc_ BK166.out 1 (.int .i64 a1); have hcz20_2 := bc_ BK166.out 2 (.slice none 0 0); have hfz20_0 := blk_frozen BK166.out 0; have hfz20_1 := blk_frozen BK166.out 1; have hfz20_2 := blk_frozen BK166.out 2) | ((with_reducible refine gate_callee (f := 111) rfl ?_); refine gL_ (some 50) Try.func111 #[.agg #[.int .i64 a0, .int .i64 a1, .slice none 0 0]] ?_; (refine (impl_Rule_cells.calls a0 a1 _ _ ([] : List Int) t170 _ ?side1 ?side2 A13.out).mono ?_); (case side1 => exact Kd.C_nil _ _); (case side2 => exact Nat.le_refl _); rintro e w21 ⟨rfl, hb⟩; refine ⟨_, rfl, ?_⟩; have n0_ := Aside0.mk (Kd.R_below (rk_ HO169.out) hb); have n1_ := Aside0.mk (bb_ BK166.out hb); have n2_ := Aside0.mk (below_step (bk_ HB.out) hb); clear HO169 BK166 HB; have HO169 := n0_; have BK166 := n1_; have HB := n2_; clear n0_ n1_ n2_; (try clear hb); (try clear hb2); (try clear hk); (try clear hi)) | ((with_reducible refine gate_callee (f := 110) rfl ?_); refine gL_ (some 51) Try.func110 #[.int .i64 a0, .int .i64 t170] ?_; (with_reducible refine (impl_raised.calls kj4 a0 t170 t171 _ A14.out).mono ?_); rintro e w' ⟨rfl, ⟨nd, rfl⟩⟩; refine ⟨_, rfl, ?_⟩; obtain ⟨Ao22, co22, eo22⟩ := Kd.R_slice HO169.out; subst eo22) | ((with_reducible refine gate_callee (f := 120) rfl ?_); refine gL_ (some 52) Try.func120 #[.slice Ao22 y167.length co22, .int .i64 t171] ?_; (with_reducible refine (slices_Repeat_int64_int64.calls _ _ y167 t171 t172 _ ?side1 ?side2 A15.out).mono ?_); (case side1 => exact ck_ (Kd.R_reads' HO169.out).2.2); (case side2 => exact (Kd.R_reads' HO169.out).2.1); rintro e w23 ⟨v173, rfl, ho0, hb⟩; refine ⟨_, rfl, ?_⟩; have n0_ := Aside0.mk (Kd.R_elder' (rk_ HO169.out) (Kd.R_base ho0) hb); have n1_ := Aside0.mk (Kd.R_lower (Kd.R_new' ho0 (Kd.R_lt (rk_ HO169.out))) (below_size (bk_ HB.out))); have n2_ := Aside0.mk (bb_ BK166.out hb); have n3_ := Aside0.mk (below_step (bk_ HB.out) hb); clear HO169 BK166 HB; have HO169 := n0_; have HO174 := n1_; have BK166 := n2_; have HB := n3_; clear n0_ n1_ n2_ n3_; (try clear hb); (try clear hb2); (try clear hk); (try clear hi); (try clear ho0)))
     go_loopg [55] kj4 (fun kq v55 w' => ∃ (x11_2 : List Int) (x55_2 : Int), v55 = .int .i64 x55_2 ∧ Aside0 (impl_learn.l0 kq a0 a1 l3 x11_2 l2 (l2.length : Int) x55_2 a0 a1 = some (r1, r2)) ∧ Aside0 (kq ≤ kj4) ∧ Aside0 (Kd.R (Kd.int .i64) 2 w' w.heap.size (fun _ => True) v173 x11_2) ∧ Aside0 (w'.heap[gb166]? = some (.cells #[.int .i64 a0, .int .i64 a1, (.slice none 0 0)] 38 (0, 0))) ∧ Aside0 (Below w.heap.size w w')); case atStart => exact ⟨(t172), (0), (by first | rfl | (simp; done) | (simp [i64_w, i32_w]; done) | (simp [*]; done) | (simp [*, i64_w, i32_w]; done)), H', ⟨Nat.le_refl _⟩, ⟨by (with_reducible repeat (first | apply Kd.R_alloc | apply Kd.R_drewN | apply Kd.R_drew)); exact Kd.R_mono HO174.out (fun _ hk => trivial)⟩, ⟨pk_ BK166.out⟩, ⟨bk_ HB.out⟩⟩
     case round =>
      clear H'; (try clear c1); (try clear c2); (try clear p2); (try clear c3); (try clear c7); (try clear c8); (try clear c9); (try clear c10); (try clear c10b0); (try clear c10b1); (try clear c11); (try clear c11b0); (try clear c11b1); (try clear c12); (try clear hcz17_0); (try clear hcz17_1); (try clear hcz17_2); (try clear hcz20_0); (try clear hcz20_1); (try clear hcz20_2); (try clear hfz17_0); (try clear hfz17_1); (try clear hfz17_2); (try clear hfz20_0); (try clear hfz20_1); (try clear hfz20_2); (try clear p2); obtain ⟨x11_2, x55_2, rfl, HA, HK2, HO_11, BK166, HB⟩ := hrel; cases gk with
      | zero => exact absurd HA.out (by simp [impl_learn.l0])
      | succ k2 =>
       have H := HA.out; clear HA; simp only [impl_learn.l0] at H; by_cases c24 : x55_2 < (l2.length : Int)
       · rw [if_pos c24] at H; have c24b0 : decide (x55_2 < (l2.length : Int)) = true := decide_eq_true c24; clear c24; by_cases c25 : 0 ≤ x55_2
         · rw [if_pos c25] at H; have c25b0 : decide (0 ≤ x55_2) = true := decide_eq_true c25; clear c25; by_cases c26 : x55_2 < (l2.length : Int)
           · rw [if_pos c26] at H; have c26b0 : decide (x55_2 < (l2.length : Int)) = true := decide_eq_true c26; clear c26; have HC27 := Aside0.mk H; clear H; have p175 : 0 ≤ (x55_2 : Int) := of_decide_eq_true (by first | (with_reducible assumption) | assumption); have q175 : x55_2 < (l2.length : Int) := of_decide_eq_true (by first | (with_reducible assumption) | assumption); obtain ⟨ad175, A175_0, c175_0, e175, hx175_0, hl175_0, hi175_0⟩ := at_L1 HR2.out x55_2 p175 q175; cases e175
             replace hx175_0 := (HB.out.cell (World.block_lt_of_cell? w _ hx175_0)).trans hx175_0; have HR175_0 := Aside0.mk hi175_0; have HC175_0 := Aside0.mk hl175_0; clear hi175_0 hl175_0; replace p175 := eq_true p175; replace q175 := eq_true q175; go_upto_region 8 with (fail); go_cut [89] (fun v89 wc => ∃ (kq : Nat) (x89_26 : Bool), v89 = .bool x89_26 ∧ Aside0 (impl_learn.j2 kq a0 a1 l3 x11_2 x55_2 (rd_L1 l2 x55_2) l2 (l2.length : Int) x55_2 x89_26 a0 a1 = some (r1, r2)) ∧ Aside0 (kq ≤ k2) ∧ Aside0 (Kd.R (Kd.int .i64) 2 wc w.heap.size (fun _ => True) v173 x11_2) ∧ Aside0 (wc.heap[gb166]? = some (.cells #[.int .i64 a0, .int .i64 a1, (.slice none 0 0)] 38 (0, 0))) ∧ Aside0 (Below w.heap.size w wc)); case first =>
              have H := HC27.out; clear HC27; replace H := Option.bind_eq_some_iff.mp H; obtain ⟨t176, A280, H⟩ := H; replace H : (if t176 = true then (if x55_2 < (l3.length : Int) then ((impl_IsRing.f k2 (rd_L1 l3 x55_2) a0).bind fun t178 => (if t178 = true then (if ((rd_L1 l2 x55_2).length : Int) = ((rd_L1 l3 x55_2).length : Int) then ((impl_Rule_cells.f a0 a1 ([] : List Int)).bind fun t180 => (impl_learn.j2 k2 a0 a1 l3 x11_2 x55_2 (rd_L1 l2 x55_2) l2 (l2.length : Int) x55_2 (decide (((rd_L1 l2 x55_2).length : Int) < t180)) a0 a1)) else (impl_learn.j2 k2 a0 a1 l3 x11_2 x55_2 (rd_L1 l2 x55_2) l2 (l2.length : Int) x55_2 true a0 a1)) else (impl_learn.j2 k2 a0 a1 l3 x11_2 x55_2 (rd_L1 l2 x55_2) l2 (l2.length : Int) x55_2 true a0 a1))) else (none)) else (impl_learn.j2 k2 a0 a1 l3 x11_2 x55_2 (rd_L1 l2 x55_2) l2 (l2.length : Int) x55_2 true a0 a1)) = some (r1, r2) := H; have A28 := Aside0.mk A280; clear A280; by_cases c29 : t176 = true
              · subst c29; have H1 : (if x55_2 < (l3.length : Int) then ((impl_IsRing.f k2 (rd_L1 l3 x55_2) a0).bind fun t178 => (if t178 = true then (if ((rd_L1 l2 x55_2).length : Int) = ((rd_L1 l3 x55_2).length : Int) then ((impl_Rule_cells.f a0 a1 ([] : List Int)).bind fun t180 => (impl_learn.j2 k2 a0 a1 l3 x11_2 x55_2 (rd_L1 l2 x55_2) l2 (l2.length : Int) x55_2 (decide (((rd_L1 l2 x55_2).length : Int) < t180)) a0 a1)) else (impl_learn.j2 k2 a0 a1 l3 x11_2 x55_2 (rd_L1 l2 x55_2) l2 (l2.length : Int) x55_2 true a0 a1)) else (impl_learn.j2 k2 a0 a1 l3 x11_2 x55_2 (rd_L1 l2 x55_2) l2 (l2.length : Int) x55_2 true a0 a1))) else (none)) = some (r1, r2) := by rw [if_pos rfl] at H; exact H
                clear H; have H := H1; clear H1; by_cases c30 : x55_2 < (l3.length : Int)
                · rw [if_pos c30] at H; have c30b0 : decide (x55_2 < (l3.length : Int)) = true := decide_eq_true c30; clear c30; (first | rw [c30b0] | (simp only [i64_w, i32_w]; rw [c30b0]) | skip); replace H := Option.bind_eq_some_iff.mp H; obtain ⟨t178, A310, H⟩ := H; replace H : (if t178 = true then (if ((rd_L1 l2 x55_2).length : Int) = ((rd_L1 l3 x55_2).length : Int) then ((impl_Rule_cells.f a0 a1 ([] : List Int)).bind fun t180 => (impl_learn.j2 k2 a0 a1 l3 x11_2 x55_2 (rd_L1 l2 x55_2) l2 (l2.length : Int) x55_2 (decide (((rd_L1 l2 x55_2).length : Int) < t180)) a0 a1)) else (impl_learn.j2 k2 a0 a1 l3 x11_2 x55_2 (rd_L1 l2 x55_2) l2 (l2.length : Int) x55_2 true a0 a1)) else (impl_learn.j2 k2 a0 a1 l3 x11_2 x55_2 (rd_L1 l2 x55_2) l2 (l2.length : Int) x55_2 true a0 a1)) = some (r1, r2) := H; have A31 := Aside0.mk A310; clear A310; by_cases c32 : t178 = true
                  · subst c32; have H1 : (if ((rd_L1 l2 x55_2).length : Int) = ((rd_L1 l3 x55_2).length : Int) then ((impl_Rule_cells.f a0 a1 ([] : List Int)).bind fun t180 => (impl_learn.j2 k2 a0 a1 l3 x11_2 x55_2 (rd_L1 l2 x55_2) l2 (l2.length : Int) x55_2 (decide (((rd_L1 l2 x55_2).length : Int) < t180)) a0 a1)) else (impl_learn.j2 k2 a0 a1 l3 x11_2 x55_2 (rd_L1 l2 x55_2) l2 (l2.length : Int) x55_2 true a0 a1)) = some (r1, r2) := by rw [if_pos rfl] at H; exact H
                    clear H; have H := H1; clear H1; by_cases c33 : ((rd_L1 l2 x55_2).length : Int) = ((rd_L1 l3 x55_2).length : Int)
                    · rw [if_pos c33] at H; have c33b0 : (((rd_L1 l2 x55_2).length : Int) == ((rd_L1 l3 x55_2).length : Int)) = true := beq_iff_eq.mpr c33; have c33b1 : (((rd_L1 l2 x55_2).length : Int) != ((rd_L1 l3 x55_2).length : Int)) = false := bne_eq_false_iff_eq.mpr c33; have c33b2 : ((rd_L1 l2 x55_2).length == (rd_L1 l3 x55_2).length) = true := by first | simpa using c33 | (simp at c33 ⊢; omega)
                      clear c33; replace H := Option.bind_eq_some_iff.mp H; obtain ⟨t180, A340, H⟩ := H; replace H : (impl_learn.j2 k2 a0 a1 l3 x11_2 x55_2 (rd_L1 l2 x55_2) l2 (l2.length : Int) x55_2 (decide (((rd_L1 l2 x55_2).length : Int) < t180)) a0 a1) = some (r1, r2) := H; have A34 := Aside0.mk A340; clear A340; have H' := Aside0.mk H; clear H; go_wp2_with (first | ((with_reducible refine gate_callee (f := 62) rfl ?_); refine gL_ (some 62) Try.func62 #[.slice A175_0 (rd_L1 l2 x55_2).length c175_0, .int .i64 a0] ?_; (with_reducible refine (impl_IsRing.calls k2 _ _ (rd_L1 l2 x55_2) a0 true _ ?side1 ?side2 A28.out).mono ?_); (case side1 => exact ck_ (Kd.C_below HR175_0.out HB.out)); (case side2 => exact HC175_0.out); rintro e w' ⟨rfl, ⟨nd, rfl⟩⟩; refine ⟨_, rfl, ?_⟩; have p177 : 0 ≤ (x55_2 : Int) := of_decide_eq_true (by first | (with_reducible assumption) | assumption); have q177 : x55_2 < (l3.length : Int) := of_decide_eq_true (by first | (with_reducible assumption) | assumption); obtain ⟨ad177, A177_0, c177_0, e177, hx177_0, hl177_0, hi177_0⟩ := at_L1 HR3.out x55_2 p177 q177; cases e177; replace hx177_0 := (HB.out.cell (World.block_lt_of_cell? w _ hx177_0)).trans hx177_0; have HR177_0 := Aside0.mk hi177_0; have HC177_0 := Aside0.mk hl177_0; clear hi177_0 hl177_0; replace p177 := eq_true p177; replace q177 := eq_true q177) | (go_at_call 62; (with_reducible refine (impl_IsRing.calls k2 _ _ (rd_L1 l3 x55_2) a0 true _ ?side1 ?side2 A31.out).mono ?_); (case side1 => repeat (first | exact (Kd.C_below HR177_0.out (bk_ HB.out)) | (with_reducible refine Kd.C_alloc ?_ _) | (with_reducible refine Kd.C_drewN ?_ _) | (with_reducible refine Kd.C_drew ?_))); (case side2 => exact HC177_0.out); rintro e w' ⟨rfl, ⟨nd, rfl⟩⟩; have p179 : 0 ≤ (x55_2 : Int) := of_decide_eq_true (by first | (with_reducible assumption) | assumption); have q179 : x55_2 < (l3.length : Int) := of_decide_eq_true (by first | (with_reducible assumption) | assumption); obtain ⟨ad179, A179_0, c179_0, e179, hx179_0, hl179_0, hi179_0⟩ := at_L1 HR3.out x55_2 p179 q179; obtain rfl : ad177 = ad179 := (by injection e179); replace hx179_0 := (HB.out.cell (World.block_lt_of_cell? w _ hx179_0)).trans hx179_0; have HR179_0 := Aside0.mk hi179_0; have HC179_0 := Aside0.mk hl179_0; clear hi179_0 hl179_0; replace p179 := eq_true p179; replace q179 := eq_true q179; have ea_ := Option.some.inj (hx177_0.symm.trans hx179_0); injection ea_ with ea_ en_ ec_; subst ea_; subst ec_; clear en_; have hcz35_0 := bc_ BK166.out 0 (.int .i64 a0); have hcz35_1 := bc_ BK166.out 1 (.int .i64 a1); have hcz35_2 := bc_ BK166.out 2 (.slice none 0 0); have hfz35_0 := blk_frozen BK166.out 0; have hfz35_1 := blk_frozen BK166.out 1; have hfz35_2 := blk_frozen BK166.out 2) | (go_at_call 111; (refine (impl_Rule_cells.calls a0 a1 _ _ ([] : List Int) t180 _ ?side1 ?side2 A34.out).mono ?_); (case side1 => exact Kd.C_nil _ _); (case side2 => exact Nat.le_refl _); rintro e w36 ⟨rfl, hb⟩; have n0_ := Aside0.mk (Kd.R_below (rk_ HO_11.out) hb); have n1_ := Aside0.mk (bb_ BK166.out hb); have n2_ := Aside0.mk (below_step (bk_ HB.out) hb); clear HO_11 BK166 HB; have HO_11 := n0_; have BK166 := n1_; have HB := n2_; clear n0_ n1_ n2_; (try clear hb); (try clear hb2); (try clear hk); (try clear hi)))
                      go_meet; case rel => exact ⟨_, (decide (((rd_L1 l2 x55_2).length : Int) < t180)), (by first | rfl | (simp; done) | (simp [i64_w, i32_w]; done) | (simp [*]; done) | (simp [*, i64_w, i32_w]; done)), H', ⟨by have := HJ4.out; have := HK2.out; first | omega | exact Nat.le_refl _⟩, ⟨rk_ HO_11.out⟩, ⟨pk_ BK166.out⟩, ⟨bk_ HB.out⟩⟩
                    · rw [if_neg c33] at H; have c33b0 : (((rd_L1 l2 x55_2).length : Int) == ((rd_L1 l3 x55_2).length : Int)) = false := beq_eq_false_iff_ne.mpr c33; have c33b1 : (((rd_L1 l2 x55_2).length : Int) != ((rd_L1 l3 x55_2).length : Int)) = true := bne_iff_ne.mpr c33; have c33b2 : ((rd_L1 l2 x55_2).length == (rd_L1 l3 x55_2).length) = false := by first | simpa using c33 | (simp at c33 ⊢; omega)
                      have H' := Aside0.mk H; clear H; go_wp2_with (first | ((with_reducible refine gate_callee (f := 62) rfl ?_); refine gL_ (some 62) Try.func62 #[.slice A175_0 (rd_L1 l2 x55_2).length c175_0, .int .i64 a0] ?_; (with_reducible refine (impl_IsRing.calls k2 _ _ (rd_L1 l2 x55_2) a0 true _ ?side1 ?side2 A28.out).mono ?_); (case side1 => exact ck_ (Kd.C_below HR175_0.out HB.out)); (case side2 => exact HC175_0.out); rintro e w' ⟨rfl, ⟨nd, rfl⟩⟩; refine ⟨_, rfl, ?_⟩; have p177 : 0 ≤ (x55_2 : Int) := of_decide_eq_true (by first | (with_reducible assumption) | assumption); have q177 : x55_2 < (l3.length : Int) := of_decide_eq_true (by first | (with_reducible assumption) | assumption); obtain ⟨ad177, A177_0, c177_0, e177, hx177_0, hl177_0, hi177_0⟩ := at_L1 HR3.out x55_2 p177 q177; cases e177; replace hx177_0 := (HB.out.cell (World.block_lt_of_cell? w _ hx177_0)).trans hx177_0; have HR177_0 := Aside0.mk hi177_0; have HC177_0 := Aside0.mk hl177_0; clear hi177_0 hl177_0; replace p177 := eq_true p177; replace q177 := eq_true q177) | (go_at_call 62; (with_reducible refine (impl_IsRing.calls k2 _ _ (rd_L1 l3 x55_2) a0 true _ ?side1 ?side2 A31.out).mono ?_); (case side1 => repeat (first | exact (Kd.C_below HR177_0.out (bk_ HB.out)) | (with_reducible refine Kd.C_alloc ?_ _) | (with_reducible refine Kd.C_drewN ?_ _) | (with_reducible refine Kd.C_drew ?_))); (case side2 => exact HC177_0.out); rintro e w' ⟨rfl, ⟨nd, rfl⟩⟩; have p179 : 0 ≤ (x55_2 : Int) := of_decide_eq_true (by first | (with_reducible assumption) | assumption); have q179 : x55_2 < (l3.length : Int) := of_decide_eq_true (by first | (with_reducible assumption) | assumption); obtain ⟨ad179, A179_0, c179_0, e179, hx179_0, hl179_0, hi179_0⟩ := at_L1 HR3.out x55_2 p179 q179; obtain rfl : ad177 = ad179 := (by injection e179); replace hx179_0 := (HB.out.cell (World.block_lt_of_cell? w _ hx179_0)).trans hx179_0; have HR179_0 := Aside0.mk hi179_0; have HC179_0 := Aside0.mk hl179_0; clear hi179_0 hl179_0; replace p179 := eq_true p179; replace q179 := eq_true q179; have ea_ := Option.some.inj (hx177_0.symm.trans hx179_0); injection ea_ with ea_ en_ ec_; subst ea_; subst ec_; clear en_))
                      go_meet; case rel => exact ⟨_, (true), (by first | rfl | (simp; done) | (simp [i64_w, i32_w]; done) | (simp [*]; done) | (simp [*, i64_w, i32_w]; done)), H', ⟨by have := HJ4.out; have := HK2.out; first | omega | exact Nat.le_refl _⟩, ⟨rk_ HO_11.out⟩, ⟨pk_ BK166.out⟩, ⟨bk_ HB.out⟩⟩
                  · replace c32 := Bool.eq_false_iff.mpr c32; subst c32; have H1 : (impl_learn.j2 k2 a0 a1 l3 x11_2 x55_2 (rd_L1 l2 x55_2) l2 (l2.length : Int) x55_2 true a0 a1) = some (r1, r2) := by rw [if_neg (show ¬ (false = true) by decide)] at H; exact H
                    clear H; have H := H1; clear H1; have H' := Aside0.mk H; clear H; go_wp2_with (first | ((with_reducible refine gate_callee (f := 62) rfl ?_); refine gL_ (some 62) Try.func62 #[.slice A175_0 (rd_L1 l2 x55_2).length c175_0, .int .i64 a0] ?_; (with_reducible refine (impl_IsRing.calls k2 _ _ (rd_L1 l2 x55_2) a0 true _ ?side1 ?side2 A28.out).mono ?_); (case side1 => exact ck_ (Kd.C_below HR175_0.out HB.out)); (case side2 => exact HC175_0.out); rintro e w' ⟨rfl, ⟨nd, rfl⟩⟩; refine ⟨_, rfl, ?_⟩; have p177 : 0 ≤ (x55_2 : Int) := of_decide_eq_true (by first | (with_reducible assumption) | assumption); have q177 : x55_2 < (l3.length : Int) := of_decide_eq_true (by first | (with_reducible assumption) | assumption); obtain ⟨ad177, A177_0, c177_0, e177, hx177_0, hl177_0, hi177_0⟩ := at_L1 HR3.out x55_2 p177 q177; cases e177; replace hx177_0 := (HB.out.cell (World.block_lt_of_cell? w _ hx177_0)).trans hx177_0; have HR177_0 := Aside0.mk hi177_0; have HC177_0 := Aside0.mk hl177_0; clear hi177_0 hl177_0; replace p177 := eq_true p177; replace q177 := eq_true q177) | (go_at_call 62; (with_reducible refine (impl_IsRing.calls k2 _ _ (rd_L1 l3 x55_2) a0 false _ ?side1 ?side2 A31.out).mono ?_); (case side1 => repeat (first | exact (Kd.C_below HR177_0.out (bk_ HB.out)) | (with_reducible refine Kd.C_alloc ?_ _) | (with_reducible refine Kd.C_drewN ?_ _) | (with_reducible refine Kd.C_drew ?_))); (case side2 => exact HC177_0.out); rintro e w' ⟨rfl, ⟨nd, rfl⟩⟩)); go_meet; case rel => exact ⟨_, (true), (by first | rfl | (simp; done) | (simp [i64_w, i32_w]; done) | (simp [*]; done) | (simp [*, i64_w, i32_w]; done)), H', ⟨by have := HJ4.out; have := HK2.out; first | omega | exact Nat.le_refl _⟩, ⟨rk_ HO_11.out⟩, ⟨pk_ BK166.out⟩, ⟨bk_ HB.out⟩⟩
                · rw [if_neg c30] at H; exact absurd H (by simp)
              · replace c29 := Bool.eq_false_iff.mpr c29; subst c29; have H1 : (impl_learn.j2 k2 a0 a1 l3 x11_2 x55_2 (rd_L1 l2 x55_2) l2 (l2.length : Int) x55_2 true a0 a1) = some (r1, r2) := by rw [if_neg (show ¬ (false = true) by decide)] at H; exact H
                clear H; have H := H1; clear H1; have H' := Aside0.mk H; clear H; go_wp2_with (first | ((with_reducible refine gate_callee (f := 62) rfl ?_); refine gL_ (some 62) Try.func62 #[.slice A175_0 (rd_L1 l2 x55_2).length c175_0, .int .i64 a0] ?_; (with_reducible refine (impl_IsRing.calls k2 _ _ (rd_L1 l2 x55_2) a0 false _ ?side1 ?side2 A28.out).mono ?_); (case side1 => exact ck_ (Kd.C_below HR175_0.out HB.out)); (case side2 => exact HC175_0.out); rintro e w' ⟨rfl, ⟨nd, rfl⟩⟩; refine ⟨_, rfl, ?_⟩)); go_meet; case rel => exact ⟨_, (true), (by first | rfl | (simp; done) | (simp [i64_w, i32_w]; done) | (simp [*]; done) | (simp [*, i64_w, i32_w]; done)), H', ⟨by have := HJ4.out; have := HK2.out; first | omega | exact Nat.le_refl _⟩, ⟨rk_ HO_11.out⟩, ⟨pk_ BK166.out⟩, ⟨bk_ HB.out⟩⟩
             case rest =>
              clear HC27; (try clear c1); (try clear p1); (try clear q1); (try clear hx1); (try clear c2); (try clear p2); (try clear c3); (try clear c6); (try clear c7); (try clear c8); (try clear c9); (try clear c10); (try clear c10b0); (try clear c10b1); (try clear c11); (try clear c11b0); (try clear c11b1); (try clear c12); (try clear c17); (try clear p17); (try clear q17); (try clear hx17); (try clear c24); (try clear c24b0); (try clear c25); (try clear c25b0); (try clear c26); (try clear c26b0); (try clear c29); (try clear c30); (try clear c30b0); (try clear c32); (try clear c33); (try clear c33b0); (try clear c33b1); (try clear c33b2); (try clear hcz17_0); (try clear hcz17_1); (try clear hcz17_2); (try clear hcz20_0); (try clear hcz20_1); (try clear hcz20_2); (try clear hcz35_0); (try clear hcz35_1); (try clear hcz35_2); (try clear hfz17_0); (try clear hfz17_1); (try clear hfz17_2); (try clear hfz20_0); (try clear hfz20_1); (try clear hfz20_2); (try clear hfz35_0); (try clear hfz35_1); (try clear hfz35_2); (try clear hx175_0); (try clear hx177_0); (try clear hx179_0); (try clear p175); (try clear p177); (try clear p179); (try clear p2); (try clear q175); (try clear q177); (try clear q179); obtain ⟨kq, x89_26, rfl, HA, HJ26, HO_11, BK166, HB⟩ := hcut; cases kq with
              | zero => exact absurd HA.out (by simp [impl_learn.j2])
              | succ kj26 =>
               have H := HA.out; clear HA; simp only [impl_learn.j2] at H; by_cases c37 : x89_26 = true
               · subst c37; have H1 : (some (([] : List Int), false)) = some (r1, r2) := by rw [if_pos rfl] at H; exact H
                 clear H; have H := H1; clear H1; simp only [Option.some.injEq, Prod.mk.injEq] at H; obtain ⟨rfl, rfl⟩ := H; go_wp2; go_ret2; exact ⟨_, by first | rfl | (simp [errW_none, errW_some] <;> rfl) | (simp [*, errW_none, errW_some] <;> rfl), by first | exact Kd.R_nil _ _ _ _ _ | exact Kd.N_nil _ _ _ _ _ | exact Kd.V_nil _ _ _ _ _ | exact Kd.Q_nil _ _ _ _ _ | exact Kd.S_nil _ _ _ _ _, bk_ HB.out⟩
               · replace c37 := Bool.eq_false_iff.mpr c37; subst c37; have H1 : (if 0 ≤ x55_2 then (if x55_2 < (l3.length : Int) then (impl_learn.l1 kj26 a0 a1 l3 x11_2 (rd_L1 l2 x55_2) l2 (l2.length : Int) x55_2 (rd_L1 l3 x55_2) ((rd_L1 l3 x55_2).length : Int) 0 a0 a1) else (none)) else (none)) = some (r1, r2) := by rw [if_neg (show ¬ (false = true) by decide)] at H; exact H
                 clear H; have H := H1; clear H1; by_cases c38 : 0 ≤ x55_2
                 · rw [if_pos c38] at H; have c38b0 : decide (0 ≤ x55_2) = true := decide_eq_true c38; clear c38; by_cases c39 : x55_2 < (l3.length : Int)
                   · rw [if_pos c39] at H; have c39b0 : decide (x55_2 < (l3.length : Int)) = true := decide_eq_true c39; clear c39; have H' := Aside0.mk H; clear H; have p181 : 0 ≤ (x55_2 : Int) := of_decide_eq_true (by first | (with_reducible assumption) | assumption); have q181 : x55_2 < (l3.length : Int) := of_decide_eq_true (by first | (with_reducible assumption) | assumption); obtain ⟨ad181, A181_0, c181_0, e181, hx181_0, hl181_0, hi181_0⟩ := at_L1 HR3.out x55_2 p181 q181; cases e181
                     replace hx181_0 := (HB.out.cell (World.block_lt_of_cell? w _ hx181_0)).trans hx181_0; have HR181_0 := Aside0.mk hi181_0; have HC181_0 := Aside0.mk hl181_0; clear hi181_0 hl181_0; replace p181 := eq_true p181; replace q181 := eq_true q181; go_wp2; go_loopg [95] kj26 (fun kq v95 w' => ∃ (x11_4 : List Int) (x95_4 : Int), v95 = .int .i64 x95_4 ∧ Aside0 (impl_learn.l1 kq a0 a1 l3 x11_4 (rd_L1 l2 x55_2) l2 (l2.length : Int) x55_2 (rd_L1 l3 x55_2) ((rd_L1 l3 x55_2).length : Int) x95_4 a0 a1 = some (r1, r2)) ∧ Aside0 (kq ≤ kj26) ∧ Aside0 (Kd.R (Kd.int .i64) 2 w' w.heap.size (fun _ => True) v173 x11_4) ∧ Aside0 (w'.heap[gb166]? = some (.cells #[.int .i64 a0, .int .i64 a1, (.slice none 0 0)] 38 (0, 0))) ∧ Aside0 (Below w.heap.size w w')); case atStart => exact ⟨(x11_2), (0), (by first | rfl | (simp; done) | (simp [i64_w, i32_w]; done) | (simp [*]; done) | (simp [*, i64_w, i32_w]; done)), H', ⟨Nat.le_refl _⟩, ⟨rk_ HO_11.out⟩, ⟨pk_ BK166.out⟩, ⟨bk_ HB.out⟩⟩
                     case round =>
                      clear H'; (try clear c1); (try clear p1); (try clear q1); (try clear hx1); (try clear c2); (try clear p2); (try clear c3); (try clear c6); (try clear c7); (try clear c8); (try clear c9); (try clear c10); (try clear c10b0); (try clear c10b1); (try clear c11); (try clear c11b0); (try clear c11b1); (try clear c12); (try clear c17); (try clear p17); (try clear q17); (try clear hx17); (try clear c18); (try clear p18); (try clear q18); (try clear hx18); (try clear c24); (try clear c24b0); (try clear c25); (try clear c25b0); (try clear c26); (try clear c26b0); (try clear c29); (try clear c30); (try clear c30b0); (try clear c32); (try clear c33); (try clear c33b0); (try clear c33b1); (try clear c33b2); (try clear c37); (try clear c38); (try clear c38b0); (try clear c39); (try clear c39b0); (try clear hcz17_0); (try clear hcz17_1); (try clear hcz17_2); (try clear hcz20_0); (try clear hcz20_1); (try clear hcz20_2); (try clear hcz35_0); (try clear hcz35_1); (try clear hcz35_2); (try clear hfz17_0); (try clear hfz17_1); (try clear hfz17_2); (try clear hfz20_0); (try clear hfz20_1); (try clear hfz20_2); (try clear hfz35_0); (try clear hfz35_1); (try clear hfz35_2); (try clear hx175_0); (try clear hx177_0); (try clear hx179_0); (try clear hx181_0); (try clear p1); (try clear p17); (try clear p175); (try clear p177); (try clear p179); (try clear p181); (try clear p2); (try clear q1); (try clear q17); (try clear q175); (try clear q177); (try clear q179); (try clear q181); obtain ⟨x11_4, x95_4, rfl, HA, HK4, HO_11, BK166, HB⟩ := hrel
                      cases gk with
                      | zero => exact absurd HA.out (by simp [impl_learn.l1])
                      | succ k4 =>
                       have H := HA.out; clear HA; simp only [impl_learn.l1] at H; by_cases c40 : x95_4 < ((rd_L1 l3 x55_2).length : Int)
                       · rw [if_pos c40] at H; have c40b0 : decide (x95_4 < ((rd_L1 l3 x55_2).length : Int)) = true := decide_eq_true c40; clear c40; by_cases c41 : 0 ≤ x95_4
                         · rw [if_pos c41] at H; have c41b0 : decide (0 ≤ x95_4) = true := decide_eq_true c41; clear c41; by_cases c42 : x95_4 < ((rd_L1 l3 x55_2).length : Int)
                           · rw [if_pos c42] at H; have c42b0 : decide (x95_4 < ((rd_L1 l3 x55_2).length : Int)) = true := decide_eq_true c42; clear c42; have H' := Aside0.mk H; clear H; have p182 : 0 ≤ (x95_4 : Int) := of_decide_eq_true (by first | (with_reducible assumption) | assumption); have q182 : x95_4 < ((rd_L1 l3 x55_2).length : Int) := of_decide_eq_true (by first | (with_reducible assumption) | assumption); obtain ⟨ad182, e182, hx182_0⟩ := Kd.at_int HR181_0.out x95_4 p182 q182; cases e182
                             replace hx182_0 := (HB.out.cell (World.block_lt_of_cell? w _ hx182_0)).trans hx182_0; replace p182 := eq_true p182; replace q182 := eq_true q182; go_wp2; go_loopg [16, 17] k4 (fun kq v16 v17 w' => ∃ (x16_5 : Int) (x17_5 : Int), v16 = .int .i64 x16_5 ∧ v17 = .int .i64 x17_5 ∧ Aside0 (impl_learn.l2 kq a0 a1 l3 x11_4 (rd_L1 l2 x55_2) x95_4 (rd (rd_L1 l3 x55_2) x95_4) x16_5 x17_5 l2 (l2.length : Int) x55_2 (rd_L1 l3 x55_2) ((rd_L1 l3 x55_2).length : Int) x95_4 a0 a1 = some (r1, r2)) ∧ Aside0 (kq ≤ k4) ∧ Aside0 (Kd.R (Kd.int .i64) 2 w' w.heap.size (fun _ => True) v173 x11_4) ∧ Aside0 (w'.heap[gb166]? = some (.cells #[.int .i64 a0, .int .i64 a1, (.slice none 0 0)] 38 (0, 0))) ∧ Aside0 (Below w.heap.size w w')); case atStart => exact ⟨(0), (wrap64 (x95_4 - a1)), (by first | rfl | (simp; done) | (simp [i64_w, i32_w]; done) | (simp [*]; done) | (simp [*, i64_w, i32_w]; done)), (by first | rfl | (simp; done) | (simp [i64_w, i32_w]; done) | (simp [*]; done) | (simp [*, i64_w, i32_w]; done)), H', ⟨Nat.le_refl _⟩, ⟨rk_ HO_11.out⟩, ⟨pk_ BK166.out⟩, ⟨bk_ HB.out⟩⟩
                             case round =>
                              clear H'; (try clear c1); (try clear p1); (try clear q1); (try clear hx1); (try clear c2); (try clear p2); (try clear c3); (try clear c4); (try clear c6); (try clear p6); (try clear c7); (try clear c8); (try clear c9); (try clear c10); (try clear c10b0); (try clear c10b1); (try clear c11); (try clear c11b0); (try clear c11b1); (try clear c12); (try clear c17); (try clear p17); (try clear q17); (try clear hx17); (try clear c18); (try clear p18); (try clear q18); (try clear hx18); (try clear c24); (try clear c24b0); (try clear c25); (try clear c25b0); (try clear c26); (try clear c26b0); (try clear c29); (try clear c30); (try clear c30b0); (try clear c32); (try clear c33); (try clear c33b0); (try clear c33b1); (try clear c33b2); (try clear c37); (try clear c38); (try clear c38b0); (try clear c39); (try clear c39b0); (try clear c40); (try clear c40b0); (try clear c41); (try clear c41b0); (try clear c42); (try clear c42b0); (try clear hcz17_0); (try clear hcz17_1); (try clear hcz17_2); (try clear hcz20_0); (try clear hcz20_1); (try clear hcz20_2); (try clear hcz35_0); (try clear hcz35_1); (try clear hcz35_2); (try clear hfz17_0); (try clear hfz17_1); (try clear hfz17_2); (try clear hfz20_0); (try clear hfz20_1); (try clear hfz20_2); (try clear hfz35_0); (try clear hfz35_1); (try clear hfz35_2); (try clear hx175_0); (try clear hx177_0); (try clear hx179_0); (try clear hx181_0); (try clear hx182_0); (try clear p1); (try clear p17); (try clear p175); (try clear p177); (try clear p179)
                              (try clear p18); (try clear p181); (try clear p182); (try clear p2); (try clear q1); (try clear q17); (try clear q175); (try clear q177); (try clear q179); (try clear q18); (try clear q181); (try clear q182); obtain ⟨x16_5, x17_5, rfl, rfl, HA, HK5, HO_11, BK166, HB⟩ := hrel; cases gk with
                              | zero => exact absurd HA.out (by simp [impl_learn.l2])
                              | succ k5 =>
                               have H := HA.out; clear HA; simp only [impl_learn.l2] at H; by_cases c43 : x17_5 ≤ (wrap64 (x95_4 + a1))
                               · rw [if_pos c43] at H; have c43b0 : decide (x17_5 ≤ (wrap64 (x95_4 + a1))) = true := decide_eq_true c43; clear c43; replace H := Option.bind_eq_some_iff.mp H; obtain ⟨t183, A440, H⟩ := H; replace H : (if 0 ≤ t183 then (if t183 < ((rd_L1 l2 x55_2).length : Int) then (impl_learn.l2 k5 a0 a1 l3 x11_4 (rd_L1 l2 x55_2) x95_4 (rd (rd_L1 l3 x55_2) x95_4) (wrap64 ((wrap64 (x16_5 * a0)) + (rd (rd_L1 l2 x55_2) t183))) (wrap64 (x17_5 + 1)) l2 (l2.length : Int) x55_2 (rd_L1 l3 x55_2) ((rd_L1 l3 x55_2).length : Int) x95_4 a0 a1) else (none)) else (none)) = some (r1, r2) := H; have A44 := Aside0.mk A440; clear A440; by_cases c45 : 0 ≤ t183
                                 · rw [if_pos c45] at H; have c45b0 : decide (0 ≤ t183) = true := decide_eq_true c45; clear c45; by_cases c46 : t183 < ((rd_L1 l2 x55_2).length : Int)
                                   · rw [if_pos c46] at H; have c46b0 : decide (t183 < ((rd_L1 l2 x55_2).length : Int)) = true := decide_eq_true c46; clear c46; have H' := Aside0.mk H; clear H; go_wp2_with (first | ((with_reducible refine gate_callee (f := 121) rfl ?_); refine gL_ (some 117) Try.func121 #[.int .i64 x17_5, .int .i64 ((rd_L1 l2 x55_2).length : Int)] ?_; (with_reducible refine (impl_floorMod.calls x17_5 ((rd_L1 l2 x55_2).length : Int) t183 _ A44.out).mono ?_); rintro e w' ⟨rfl, ⟨nd, rfl⟩⟩; refine ⟨_, rfl, ?_⟩; have p184 : 0 ≤ (t183 : Int) := of_decide_eq_true (by first | (with_reducible assumption) | assumption); have q184 : t183 < ((rd_L1 l2 x55_2).length : Int) := of_decide_eq_true (by first | (with_reducible assumption) | assumption); obtain ⟨ad184, e184, hx184_0⟩ := Kd.at_int HR175_0.out t183 p184 q184; cases e184; replace hx184_0 := (HB.out.cell (World.block_lt_of_cell? w _ hx184_0)).trans hx184_0; replace p184 := eq_true p184; replace q184 := eq_true q184)); go_roundg k5; case measure => have := HJ4.out; have := HK2.out; have := HJ26.out; have := HK4.out; have := HK5.out; omega
                                     case rel => exact ⟨(wrap64 ((wrap64 (x16_5 * a0)) + (rd (rd_L1 l2 x55_2) t183))), (wrap64 (x17_5 + 1)), (by first | rfl | (simp; done) | (simp [i64_w, i32_w]; done) | (simp [*]; done) | (simp [*, i64_w, i32_w]; done)), (by first | rfl | (simp; done) | (simp [i64_w, i32_w]; done) | (simp [*]; done) | (simp [*, i64_w, i32_w]; done)), H', ⟨by have := HJ4.out; have := HK2.out; have := HJ26.out; have := HK4.out; have := HK5.out; omega⟩, ⟨rk_ HO_11.out⟩, ⟨pk_ BK166.out⟩, ⟨bk_ HB.out⟩⟩
                                   · rw [if_neg c46] at H; exact absurd H (by simp)
                                 · rw [if_neg c45] at H; exact absurd H (by simp)
                               · rw [if_neg c43] at H; have c43b0 : decide (x17_5 ≤ (wrap64 (x95_4 + a1))) = false := decide_eq_false c43; clear c43; by_cases c47 : 0 ≤ x16_5
                                 · rw [if_pos c47] at H; have c47b0 : decide (0 ≤ x16_5) = true := decide_eq_true c47; clear c47; by_cases c48 : x16_5 < (x11_4.length : Int)
                                   · rw [if_pos c48] at H; have c48b0 : decide (x16_5 < (x11_4.length : Int)) = true := decide_eq_true c48; clear c48; by_cases c49 : (rd x11_4 x16_5) ≥ 0
                                     · rw [if_pos c49] at H; have c49b0 : decide (0 ≤ (rd x11_4 x16_5)) = true := decide_eq_true c49; clear c49; by_cases c50 : (rd x11_4 x16_5) = (rd (rd_L1 l3 x55_2) x95_4)
                                       · rw [if_pos c50] at H; have c50b0 : ((rd x11_4 x16_5) == (rd (rd_L1 l3 x55_2) x95_4)) = true := beq_iff_eq.mpr c50; have c50b1 : ((rd x11_4 x16_5) != (rd (rd_L1 l3 x55_2) x95_4)) = false := bne_eq_false_iff_eq.mpr c50; clear c50; obtain ⟨y186, hy186⟩ : ∃ y_ : List Int, y_ = (x11_4.set (x16_5 : Int).toNat (rd (rd_L1 l3 x55_2) x95_4)) := ⟨_, rfl⟩; replace H : (impl_learn.l1 k5 a0 a1 l3 y186 (rd_L1 l2 x55_2) l2 (l2.length : Int) x55_2 (rd_L1 l3 x55_2) ((rd_L1 l3 x55_2).length : Int) (wrap64 (x95_4 + 1)) a0 a1) = some (r1, r2) := by first | (rw [hy186]; with_reducible exact H) | (have H2_ := (Option.bind_some _ _).symm.trans H; rw [hy186]; with_reducible exact H2_) | (have H2_ := (Option.bind_some _ _).symm.trans H; with_reducible exact H2_) | with_reducible exact H | (rw [hy186]; exact H) | exact H
                                         have Ny186 := Aside0.mk hy186; clear hy186; have H' := Aside0.mk H; clear H; obtain ⟨Ao52, co52, eo52⟩ := Kd.R_slice HO_11.out; subst eo52; have p185 : 0 ≤ (x16_5 : Int) := of_decide_eq_true (by first | (with_reducible assumption) | assumption); have q185 : x16_5 < (x11_4.length : Int) := of_decide_eq_true (by first | (with_reducible assumption) | assumption); obtain ⟨ad185, e185, hx185_0⟩ := Kd.at_int (Kd.R_reads' HO_11.out).2.2 x16_5 p185 q185; cases e185
                                         replace p185 := eq_true p185; replace q185 := eq_true q185; have p51 : 0 ≤ (x16_5 : Int) := of_decide_eq_true (by first | (with_reducible assumption) | assumption); have q51 : (x16_5 : Int) < ((x11_4.length : Int) : Int) := of_decide_eq_true (by first | (with_reducible assumption) | assumption); obtain ⟨go51, co51, eo51, gb51, gl51, cl51, HG51⟩ := Kd.R_form HO_11.out (by omega); (first | cases eo51 | (injection eo51 with ea_ en_ ec_; (first | subst ea_ | (injection ea_ with ea_; subst ea_)); subst ec_; clear en_)); have GB51 := Aside0.mk gb51; have GG51 := Aside0.mk HG51; clear gb51 gl51 HG51; (first | simp only [add_plain] at hx185_0 | skip); obtain ⟨hx51_0, hf51_0⟩ := Kd.R_celln 0 HO_11.out (x16_5 : Int) p51 q51; replace p51 := eq_true p51; replace q51 := eq_true q51; have HP53 := Kd.R_putg HO_11.out (x16_5 : Int) (rd (rd_L1 l3 x55_2) x95_4); go_wp2_with (first | ((with_reducible refine gate_store (t := 2) (p := 135) rfl ?_); refine store_event (t := 2) (p := 135) (v := ?vo_w54) (w1 := (wr.setCell ⟨go51, (x16_5 : Int).toNat, none⟩ (.int .i64 (rd (rd_L1 l3 x55_2) x95_4)))) ?hg ?ho ?hn ?hr ?_; (case ho => rfl); (case hg => rfl); (case hn => rfl); (case hr => first | (go_simp; done) | (go_simp; rfl)); intro w54 hw; have hg : wr.grownBy w54 (some go51) := (by rw [hw]; exact HP53.2); have hp_ : Kd.R (Kd.int .i64) 2 w54 w.heap.size (fun _ => True) (.slice (some ⟨go51, 0, none⟩) x11_4.length co52) y186 := (by rw [hw, Ny186.out]; exact HP53.1); clear HP53; have n0_ := Aside0.mk (hp_); have n1_ := Aside0.mk (bg_ BK166.out hg (Kd.R_ne HO_11.out BK166.out (by decide))); have n2_ := Aside0.mk ((by rw [hw]; exact below_set (HB.out) GB51.out : Below w.heap.size w w54)); clear HO_11 BK166 HB; have HO_11 := n0_; have BK166 := n1_; have HB := n2_; clear n0_ n1_ n2_ hg hw hp_))
                                         go_roundg k5; case measure => have := HJ4.out; have := HK2.out; have := HJ26.out; have := HK4.out; have := HK5.out; omega
                                         case rel => exact ⟨(y186), (wrap64 (x95_4 + 1)), (by first | rfl | (simp; done) | (simp [i64_w, i32_w]; done) | (simp [*]; done) | (simp [*, i64_w, i32_w]; done)), H', ⟨by have := HJ4.out; have := HK2.out; have := HJ26.out; have := HK4.out; have := HK5.out; omega⟩, ⟨rk_ HO_11.out⟩, ⟨pk_ BK166.out⟩, ⟨bk_ HB.out⟩⟩
                                       · rw [if_neg c50] at H; have c50b0 : ((rd x11_4 x16_5) == (rd (rd_L1 l3 x55_2) x95_4)) = false := beq_eq_false_iff_ne.mpr c50; have c50b1 : ((rd x11_4 x16_5) != (rd (rd_L1 l3 x55_2) x95_4)) = true := bne_iff_ne.mpr c50; simp only [Option.some.injEq, Prod.mk.injEq] at H; obtain ⟨rfl, rfl⟩ := H; obtain ⟨Ao55, co55, eo55⟩ := Kd.R_slice HO_11.out; subst eo55; have p185 : 0 ≤ (x16_5 : Int) := of_decide_eq_true (by first | (with_reducible assumption) | assumption); have q185 : x16_5 < (x11_4.length : Int) := of_decide_eq_true (by first | (with_reducible assumption) | assumption); obtain ⟨ad185, e185, hx185_0⟩ := Kd.at_int (Kd.R_reads' HO_11.out).2.2 x16_5 p185 q185; cases e185
                                         replace p185 := eq_true p185; replace q185 := eq_true q185; go_wp2; go_ret2; exact ⟨_, by first | rfl | (simp [errW_none, errW_some] <;> rfl) | (simp [*, errW_none, errW_some] <;> rfl), by first | exact Kd.R_nil _ _ _ _ _ | exact Kd.N_nil _ _ _ _ _ | exact Kd.V_nil _ _ _ _ _ | exact Kd.Q_nil _ _ _ _ _ | exact Kd.S_nil _ _ _ _ _, bk_ HB.out⟩
                                     · rw [if_neg c49] at H; have c49b0 : decide (0 ≤ (rd x11_4 x16_5)) = false := decide_eq_false c49; clear c49; obtain ⟨y187, hy187⟩ : ∃ y_ : List Int, y_ = (x11_4.set (x16_5 : Int).toNat (rd (rd_L1 l3 x55_2) x95_4)) := ⟨_, rfl⟩; replace H : (impl_learn.l1 k5 a0 a1 l3 y187 (rd_L1 l2 x55_2) l2 (l2.length : Int) x55_2 (rd_L1 l3 x55_2) ((rd_L1 l3 x55_2).length : Int) (wrap64 (x95_4 + 1)) a0 a1) = some (r1, r2) := by first | (rw [hy187]; with_reducible exact H) | (have H2_ := (Option.bind_some _ _).symm.trans H; rw [hy187]; with_reducible exact H2_) | (have H2_ := (Option.bind_some _ _).symm.trans H; with_reducible exact H2_) | with_reducible exact H | (rw [hy187]; exact H) | exact H
                                       have Ny187 := Aside0.mk hy187; clear hy187; have H' := Aside0.mk H; clear H; obtain ⟨Ao57, co57, eo57⟩ := Kd.R_slice HO_11.out; subst eo57; have p185 : 0 ≤ (x16_5 : Int) := of_decide_eq_true (by first | (with_reducible assumption) | assumption); have q185 : x16_5 < (x11_4.length : Int) := of_decide_eq_true (by first | (with_reducible assumption) | assumption); obtain ⟨ad185, e185, hx185_0⟩ := Kd.at_int (Kd.R_reads' HO_11.out).2.2 x16_5 p185 q185; cases e185
                                       replace p185 := eq_true p185; replace q185 := eq_true q185; have p56 : 0 ≤ (x16_5 : Int) := of_decide_eq_true (by first | (with_reducible assumption) | assumption); have q56 : (x16_5 : Int) < ((x11_4.length : Int) : Int) := of_decide_eq_true (by first | (with_reducible assumption) | assumption); obtain ⟨go56, co56, eo56, gb56, gl56, cl56, HG56⟩ := Kd.R_form HO_11.out (by omega); (first | cases eo56 | (injection eo56 with ea_ en_ ec_; (first | subst ea_ | (injection ea_ with ea_; subst ea_)); subst ec_; clear en_)); have GB56 := Aside0.mk gb56; have GG56 := Aside0.mk HG56; clear gb56 gl56 HG56; (first | simp only [add_plain] at hx185_0 | skip); obtain ⟨hx56_0, hf56_0⟩ := Kd.R_celln 0 HO_11.out (x16_5 : Int) p56 q56; replace p56 := eq_true p56; replace q56 := eq_true q56; have HP58 := Kd.R_putg HO_11.out (x16_5 : Int) (rd (rd_L1 l3 x55_2) x95_4); go_wp2_with (first | ((with_reducible refine gate_store (t := 2) (p := 135) rfl ?_); refine store_event (t := 2) (p := 135) (v := ?vo_w59) (w1 := (wr.setCell ⟨go56, (x16_5 : Int).toNat, none⟩ (.int .i64 (rd (rd_L1 l3 x55_2) x95_4)))) ?hg ?ho ?hn ?hr ?_; (case ho => rfl); (case hg => rfl); (case hn => rfl); (case hr => first | (go_simp; done) | (go_simp; rfl)); intro w59 hw; have hg : wr.grownBy w59 (some go56) := (by rw [hw]; exact HP58.2); have hp_ : Kd.R (Kd.int .i64) 2 w59 w.heap.size (fun _ => True) (.slice (some ⟨go56, 0, none⟩) x11_4.length co57) y187 := (by rw [hw, Ny187.out]; exact HP58.1); clear HP58; have n0_ := Aside0.mk (hp_); have n1_ := Aside0.mk (bg_ BK166.out hg (Kd.R_ne HO_11.out BK166.out (by decide))); have n2_ := Aside0.mk ((by rw [hw]; exact below_set (HB.out) GB56.out : Below w.heap.size w w59)); clear HO_11 BK166 HB; have HO_11 := n0_; have BK166 := n1_; have HB := n2_; clear n0_ n1_ n2_ hg hw hp_))
                                       go_roundg k5; case measure => have := HJ4.out; have := HK2.out; have := HJ26.out; have := HK4.out; have := HK5.out; omega
                                       case rel => exact ⟨(y187), (wrap64 (x95_4 + 1)), (by first | rfl | (simp; done) | (simp [i64_w, i32_w]; done) | (simp [*]; done) | (simp [*, i64_w, i32_w]; done)), H', ⟨by have := HJ4.out; have := HK2.out; have := HJ26.out; have := HK4.out; have := HK5.out; omega⟩, ⟨rk_ HO_11.out⟩, ⟨pk_ BK166.out⟩, ⟨bk_ HB.out⟩⟩
                                   · rw [if_neg c48] at H; exact absurd H (by simp)
                                 · rw [if_neg c47] at H; exact absurd H (by simp)
                           · rw [if_neg c42] at H; exact absurd H (by simp)
                         · rw [if_neg c41] at H; exact absurd H (by simp)
                       · rw [if_neg c40] at H; have c40b0 : decide (x95_4 < ((rd_L1 l3 x55_2).length : Int)) = false := decide_eq_false c40; clear c40; have H' := Aside0.mk H; clear H; go_wp2; go_roundg k4; case measure => have := HJ4.out; have := HK2.out; have := HJ26.out; have := HK4.out; omega
                         case rel => exact ⟨(x11_4), (wrap64 (x55_2 + 1)), (by first | rfl | (simp; done) | (simp [i64_w, i32_w]; done) | (simp [*]; done) | (simp [*, i64_w, i32_w]; done)), H', ⟨by have := HJ4.out; have := HK2.out; have := HJ26.out; have := HK4.out; omega⟩, ⟨rk_ HO_11.out⟩, ⟨pk_ BK166.out⟩, ⟨bk_ HB.out⟩⟩
                   · rw [if_neg c39] at H; exact absurd H (by simp)
                 · rw [if_neg c38] at H; exact absurd H (by simp)
           · rw [if_neg c26] at H; exact absurd H (by simp)
         · rw [if_neg c25] at H; exact absurd H (by simp)
       · rw [if_neg c24] at H; have c24b0 : decide (x55_2 < (l2.length : Int)) = false := decide_eq_false c24; clear c24; simp only [Option.some.injEq, Prod.mk.injEq] at H; obtain ⟨rfl, rfl⟩ := H; go_wp2; go_ret2; exact ⟨_, by first | rfl | (simp [errW_none, errW_some] <;> rfl) | (simp [*, errW_none, errW_some] <;> rfl), by (with_reducible repeat (first | apply Kd.R_alloc | apply Kd.R_drewN | apply Kd.R_drew)); exact HO_11.out, bk_ HB.out⟩

/-! ### impl_LeastReach: function 41 -/
def impl_LeastReach.l0 : Nat → Int → List (List Int) → List (List Int) → Int → Option (Int × Bool)
  | 0, _, _, _, _ => none
  | k + 1, x0, x1, x2, x11 => if x11 < 3 then ((impl_learn.f k x0 x11 x1 x2).bind fun bt188 => (if bt188.2 = true then (some (x11, true)) else (impl_LeastReach.l0 k x0 x1 x2 (wrap64 (x11 + 1))))) else (some (0, false))
def impl_LeastReach.f (k : Nat) (a0 : Int) (l1 : List (List Int)) (l2 : List (List Int)) : Option (Int × Bool) := impl_LeastReach.l0 k a0 l1 l2 0
theorem impl_LeastReach.mono_l : ∀ k, (∀ y0 y1 y2 y3, LeO (impl_LeastReach.l0 k y0 y1 y2 y3) (impl_LeastReach.l0 (k + 1) y0 y1 y2 y3))
  | 0 => fun _ _ _ _ r h => by simp [impl_LeastReach.l0] at h
  | k + 1 => by
    have ih0 := impl_LeastReach.mono_l k
    · intro y0 y1 y2 y3
      unfold impl_LeastReach.l0
      repeat' first
      | (with_reducible exact ih0 _ _ _ _)
      | (with_reducible exact impl_learn.mono _ _ _ _ _)
      | (with_reducible exact LeO.refl _)
      | (with_reducible exact LeO.none _)
      | (with_reducible refine LeO.ite ?_ ?_)
      | (with_reducible refine LeO.bind ?_ (fun _ => ?_))
      | exact ih0 _ _ _ _
      | exact impl_learn.mono _ _ _ _ _
      | exact LeO.none _
      | refine LeO.ite ?_ ?_
      | refine LeO.bind ?_ (fun _ => ?_)
theorem impl_LeastReach.mono : ∀ a0 a1 a2 k, LeO (impl_LeastReach.f k a0 a1 a2) (impl_LeastReach.f (k + 1) a0 a1 a2) := by
 intro a0 a1 a2 k; have ih0 := impl_LeastReach.mono_l k; unfold impl_LeastReach.f; repeat' first
  | (with_reducible exact ih0 _ _ _ _)
  | (with_reducible exact impl_learn.mono _ _ _ _ _)
  | (with_reducible exact LeO.refl _)
  | (with_reducible exact LeO.none _)
  | (with_reducible refine LeO.ite ?_ ?_)
  | (with_reducible refine LeO.bind ?_ (fun _ => ?_))
  | exact ih0 _ _ _ _
  | exact impl_learn.mono _ _ _ _ _
  | exact LeO.none _
  | refine LeO.ite ?_ ?_
  | refine LeO.bind ?_ (fun _ => ?_)
set_option maxHeartbeats 8000000 in
set_option maxRecDepth 100000 in
theorem impl_LeastReach.calls (k : Nat) (a0 : Int) (A1 : Option Addr) (c1 : Nat) (l1 : List (List Int)) (A2 : Option Addr) (c2 : Nat) (l2 : List (List Int)) (r1 : Int) (r2 : Bool) (w : World) (hr1 : Kd.C (Kd.slice 2 (Kd.int .i64)) w A1 l1.length l1) (hc1 : l1.length ≤ c1) (hr2 : Kd.C (Kd.slice 2 (Kd.int .i64)) w A2 l2.length l2) (hc2 : l2.length ≤ c2) (h : impl_LeastReach.f k a0 l1 l2 = some (r1, r2)) :
    Calls Try.prog 41 #[.int .i64 a0, .slice A1 l1.length c1, .slice A2 l2.length c2] w fun e w' => e = .returned (.tuple #[.int .i64 r1, .bool r2]) ∧ Below w.heap.size w w' := by
 have HR1 := Aside0.mk hr1; have HC1 := Aside0.mk hc1; clear hr1 hc1; have HR2 := Aside0.mk hr2; have HC2 := Aside0.mk hc2; clear hr2 hc2; have HB := Aside0.mk (Below.refl w.heap.size w); have H : (impl_LeastReach.l0 k a0 l1 l2 0) = some (r1, r2) := h; clear h; have H' := Aside0.mk H; clear H; go_enter Try.func41, Try.ntmps41; go_wp2; go_loopg [11] k (fun kq v11 w' => ∃ (x11_1 : Int), v11 = .int .i64 x11_1 ∧ Aside0 (impl_LeastReach.l0 kq a0 l1 l2 x11_1 = some (r1, r2)) ∧ Aside0 (kq ≤ k) ∧ Aside0 (Below w.heap.size w w')); case atStart => exact ⟨(0), (by first | rfl | (simp; done) | (simp [i64_w, i32_w]; done) | (simp [*]; done) | (simp [*, i64_w, i32_w]; done)), H', ⟨Nat.le_refl _⟩, ⟨bk_ HB.out⟩⟩
 case round =>
  clear H'; (try clear c1); (try clear c2); (try clear p2); obtain ⟨x11_1, rfl, HA, HK1, HB⟩ := hrel; cases gk with
  | zero => exact absurd HA.out (by simp [impl_LeastReach.l0])
  | succ k1 =>
   have H := HA.out; clear HA; simp only [impl_LeastReach.l0] at H; by_cases c4 : x11_1 < 3
   · rw [if_pos c4] at H; have c4b0 : decide (x11_1 < 3) = true := decide_eq_true c4; clear c4; replace H := Option.bind_eq_some_iff.mp H; obtain ⟨⟨t188, t189⟩, A50, H⟩ := H; replace H : (if t189 = true then (some (x11_1, true)) else (impl_LeastReach.l0 k1 a0 l1 l2 (wrap64 (x11_1 + 1)))) = some (r1, r2) := H; have A5 := Aside0.mk A50; clear A50; by_cases c6 : t189 = true
     · subst c6; have H1 : (some (x11_1, true)) = some (r1, r2) := by rw [if_pos rfl] at H; exact H
       clear H; have H := H1; clear H1; simp only [Option.some.injEq, Prod.mk.injEq] at H; obtain ⟨rfl, rfl⟩ := H; go_wp2_with (first | ((with_reducible refine gate_callee (f := 88) rfl ?_); refine gL_ (some 19) Try.func88 #[.int .i64 a0, .int .i64 x11_1, .slice A1 l1.length c1, .slice A2 l2.length c2] ?_; (with_reducible refine (impl_learn.calls k1 a0 x11_1 _ _ l1 _ _ l2 t188 true _ ?side1 ?side2 ?side3 ?side4 A5.out).mono ?_); (case side1 => exact ck_ (Kd.C_below HR1.out HB.out)); (case side2 => exact HC1.out); (case side3 => exact ck_ (Kd.C_below HR2.out HB.out)); (case side4 => exact HC2.out); rintro e w7 ⟨v190, rfl, ho0, hb⟩; refine ⟨_, rfl, ?_⟩; have n0_ := Aside0.mk (Kd.R_lower ho0 (below_size (bk_ HB.out))); have n1_ := Aside0.mk (below_step (bk_ HB.out) hb); clear HB; have HO191 := n0_; have HB := n1_; clear n0_ n1_; (try clear hb); (try clear hb2); (try clear hk); (try clear hi); (try clear ho0))); go_ret2; exact ⟨by first | rfl | (simp [errW_none, errW_some] <;> rfl) | (simp [*, errW_none, errW_some] <;> rfl), bk_ HB.out⟩
     · replace c6 := Bool.eq_false_iff.mpr c6; subst c6; have H1 : (impl_LeastReach.l0 k1 a0 l1 l2 (wrap64 (x11_1 + 1))) = some (r1, r2) := by rw [if_neg (show ¬ (false = true) by decide)] at H; exact H
       clear H; have H := H1; clear H1; have H' := Aside0.mk H; clear H; go_wp2_with (first | ((with_reducible refine gate_callee (f := 88) rfl ?_); refine gL_ (some 19) Try.func88 #[.int .i64 a0, .int .i64 x11_1, .slice A1 l1.length c1, .slice A2 l2.length c2] ?_; (with_reducible refine (impl_learn.calls k1 a0 x11_1 _ _ l1 _ _ l2 t188 false _ ?side1 ?side2 ?side3 ?side4 A5.out).mono ?_); (case side1 => exact ck_ (Kd.C_below HR1.out HB.out)); (case side2 => exact HC1.out); (case side3 => exact ck_ (Kd.C_below HR2.out HB.out)); (case side4 => exact HC2.out); rintro e w8 ⟨v190, rfl, ho0, hb⟩; refine ⟨_, rfl, ?_⟩; have n0_ := Aside0.mk (Kd.R_lower ho0 (below_size (bk_ HB.out))); have n1_ := Aside0.mk (below_step (bk_ HB.out) hb); clear HB; have HO191 := n0_; have HB := n1_; clear n0_ n1_; (try clear hb); (try clear hb2); (try clear hk); (try clear hi); (try clear ho0))); go_roundg k1; case measure => have := HK1.out; omega
       case rel => exact ⟨(wrap64 (x11_1 + 1)), (by first | rfl | (simp; done) | (simp [i64_w, i32_w]; done) | (simp [*]; done) | (simp [*, i64_w, i32_w]; done)), H', ⟨by have := HK1.out; omega⟩, ⟨bk_ HB.out⟩⟩
   · rw [if_neg c4] at H; have c4b0 : decide (x11_1 < 3) = false := decide_eq_false c4; clear c4; simp only [Option.some.injEq, Prod.mk.injEq] at H; obtain ⟨rfl, rfl⟩ := H; go_wp2; go_ret2; exact ⟨by first | rfl | (simp [errW_none, errW_some] <;> rfl) | (simp [*, errW_none, errW_some] <;> rfl), bk_ HB.out⟩

/-! ### laws_eqInt64S: function 16 -/
def laws_eqInt64S.l0 : Nat → List Int → List Int → Int → Option (Bool)
  | 0, _, _, _ => none
  | k + 1, x0, x1, x5 => if x5 < (x0.length : Int) then (if 0 ≤ x5 then (if x5 < (x1.length : Int) then (if (rd x0 x5) = (rd x1 x5) then (laws_eqInt64S.l0 k x0 x1 (wrap64 (x5 + 1))) else (some false)) else (none)) else (none)) else (some true)
def laws_eqInt64S.f (k : Nat) (l0 : List Int) (l1 : List Int) : Option (Bool) := if (l0.length : Int) = (l1.length : Int) then (laws_eqInt64S.l0 k l0 l1 0) else (some false)
theorem laws_eqInt64S.mono_l : ∀ k, (∀ y0 y1 y2, LeO (laws_eqInt64S.l0 k y0 y1 y2) (laws_eqInt64S.l0 (k + 1) y0 y1 y2))
  | 0 => fun _ _ _ r h => by simp [laws_eqInt64S.l0] at h
  | k + 1 => by
    have ih0 := laws_eqInt64S.mono_l k
    · intro y0 y1 y2
      unfold laws_eqInt64S.l0
      repeat' first
      | (with_reducible exact ih0 _ _ _)
      | (with_reducible exact LeO.refl _)
      | (with_reducible exact LeO.none _)
      | (with_reducible refine LeO.ite ?_ ?_)
      | (with_reducible refine LeO.bind ?_ (fun _ => ?_))
      | exact ih0 _ _ _
      | exact LeO.none _
      | refine LeO.ite ?_ ?_
      | refine LeO.bind ?_ (fun _ => ?_)
theorem laws_eqInt64S.mono : ∀ a0 a1 k, LeO (laws_eqInt64S.f k a0 a1) (laws_eqInt64S.f (k + 1) a0 a1) := by
 intro a0 a1 k; have ih0 := laws_eqInt64S.mono_l k; unfold laws_eqInt64S.f; repeat' first
  | (with_reducible exact ih0 _ _ _)
  | (with_reducible exact LeO.refl _)
  | (with_reducible exact LeO.none _)
  | (with_reducible refine LeO.ite ?_ ?_)
  | (with_reducible refine LeO.bind ?_ (fun _ => ?_))
  | exact ih0 _ _ _
  | exact LeO.none _
  | refine LeO.ite ?_ ?_
  | refine LeO.bind ?_ (fun _ => ?_)
set_option maxHeartbeats 8000000 in
set_option maxRecDepth 100000 in
theorem laws_eqInt64S.calls (k : Nat) (A0 : Option Addr) (c0 : Nat) (l0 : List Int) (A1 : Option Addr) (c1 : Nat) (l1 : List Int) (r : Bool) (w : World) (hr0 : Kd.C (Kd.int .i64) w A0 l0.length l0) (hc0 : l0.length ≤ c0) (hr1 : Kd.C (Kd.int .i64) w A1 l1.length l1) (hc1 : l1.length ≤ c1) (h : laws_eqInt64S.f k l0 l1 = some r) :
    Calls Try.prog 16 #[.slice A0 l0.length c0, .slice A1 l1.length c1] w fun e w' => e = .returned (.bool r) ∧ Drawn0 w w' := by
 have HR0 := Aside0.mk hr0; have HC0 := Aside0.mk hc0; clear hr0 hc0; have HR1 := Aside0.mk hr1; have HC1 := Aside0.mk hc1; clear hr1 hc1; have H : (if (l0.length : Int) = (l1.length : Int) then (laws_eqInt64S.l0 k l0 l1 0) else (some false)) = some r := h; clear h; by_cases c3 : (l0.length : Int) = (l1.length : Int)
 · rw [if_pos c3] at H; have c3b0 : ((l0.length : Int) == (l1.length : Int)) = true := beq_iff_eq.mpr c3; have c3b1 : ((l0.length : Int) != (l1.length : Int)) = false := bne_eq_false_iff_eq.mpr c3; have c3b2 : (l0.length == l1.length) = true := by first | simpa using c3 | (simp at c3 ⊢; omega)
   clear c3; have H' := Aside0.mk H; clear H; go_enter Try.func16, Try.ntmps16; go_wp2; repeat (go_quiet (fail); try go_wp2)
   go_loopg [5] k (fun kq v5 w' => ∃ (x5_1 : Int), v5 = .int .i64 x5_1 ∧ Aside0 (laws_eqInt64S.l0 kq l0 l1 x5_1 = some r) ∧ Aside0 (kq ≤ k) ∧ Drawn0 w w'); case atStart => exact ⟨(0), (by first | rfl | (simp; done) | (simp [i64_w, i32_w]; done) | (simp [*]; done) | (simp [*, i64_w, i32_w]; done)), H', ⟨Nat.le_refl _⟩, by repeat (first | exact Drawn0.refl _ | apply Drawn0.step)⟩
   case round =>
    clear H'; (try clear c1); (try clear p2); (try clear c3); (try clear c3b0); (try clear c3b1); (try clear c3b2); obtain ⟨x5_1, rfl, HA, HK1, ⟨m1, rfl⟩⟩ := hrel; cases gk with
    | zero => exact absurd HA.out (by simp [laws_eqInt64S.l0])
    | succ k1 =>
     have H := HA.out; clear HA; simp only [laws_eqInt64S.l0] at H; by_cases c4 : x5_1 < (l0.length : Int)
     · rw [if_pos c4] at H; have c4b0 : decide (x5_1 < (l0.length : Int)) = true := decide_eq_true c4; clear c4; by_cases c5 : 0 ≤ x5_1
       · rw [if_pos c5] at H; have c5b0 : decide (0 ≤ x5_1) = true := decide_eq_true c5; clear c5; by_cases c6 : x5_1 < (l1.length : Int)
         · rw [if_pos c6] at H; have c6b0 : decide (x5_1 < (l1.length : Int)) = true := decide_eq_true c6; clear c6; by_cases c7 : (rd l0 x5_1) = (rd l1 x5_1)
           · rw [if_pos c7] at H; have c7b0 : ((rd l0 x5_1) == (rd l1 x5_1)) = true := beq_iff_eq.mpr c7; have c7b1 : ((rd l0 x5_1) != (rd l1 x5_1)) = false := bne_eq_false_iff_eq.mpr c7; clear c7; have H' := Aside0.mk H; clear H; have p192 : 0 ≤ (x5_1 : Int) := of_decide_eq_true (by first | (with_reducible assumption) | assumption); have q192 : x5_1 < (l0.length : Int) := of_decide_eq_true (by first | (with_reducible assumption) | assumption); obtain ⟨ad192, e192, hx192_0⟩ := Kd.at_int HR0.out x5_1 p192 q192; cases e192
             replace p192 := eq_true p192; replace q192 := eq_true q192; have p193 : 0 ≤ (x5_1 : Int) := of_decide_eq_true (by first | (with_reducible assumption) | assumption); have q193 : x5_1 < (l1.length : Int) := of_decide_eq_true (by first | (with_reducible assumption) | assumption); obtain ⟨ad193, e193, hx193_0⟩ := Kd.at_int HR1.out x5_1 p193 q193; cases e193
             replace p193 := eq_true p193; replace q193 := eq_true q193; go_wp2; repeat (go_quiet (fail); try go_wp2)
             go_roundg k1; case measure => have := HK1.out; omega
             case rel => exact ⟨(wrap64 (x5_1 + 1)), (by first | rfl | (simp; done) | (simp [i64_w, i32_w]; done) | (simp [*]; done) | (simp [*, i64_w, i32_w]; done)), H', ⟨by have := HK1.out; omega⟩, by repeat (first | exact Drawn0.refl _ | apply Drawn0.step)⟩
           · rw [if_neg c7] at H; have c7b0 : ((rd l0 x5_1) == (rd l1 x5_1)) = false := beq_eq_false_iff_ne.mpr c7; have c7b1 : ((rd l0 x5_1) != (rd l1 x5_1)) = true := bne_iff_ne.mpr c7; obtain rfl := Option.some.inj H; have p192 : 0 ≤ (x5_1 : Int) := of_decide_eq_true (by first | (with_reducible assumption) | assumption); have q192 : x5_1 < (l0.length : Int) := of_decide_eq_true (by first | (with_reducible assumption) | assumption); obtain ⟨ad192, e192, hx192_0⟩ := Kd.at_int HR0.out x5_1 p192 q192; cases e192
             replace p192 := eq_true p192; replace q192 := eq_true q192; have p193 : 0 ≤ (x5_1 : Int) := of_decide_eq_true (by first | (with_reducible assumption) | assumption); have q193 : x5_1 < (l1.length : Int) := of_decide_eq_true (by first | (with_reducible assumption) | assumption); obtain ⟨ad193, e193, hx193_0⟩ := Kd.at_int HR1.out x5_1 p193 q193; cases e193
             replace p193 := eq_true p193; replace q193 := eq_true q193; go_wp2; repeat (go_quiet (fail); try go_wp2)
             go_ret; exact ⟨by first | rfl | (simp; done) | (simp [i64_w, i32_w]; done) | (simp [*]; done) | (simp [*, i64_w, i32_w]; done), by repeat (first | exact Drawn0.refl _ | apply Drawn0.step)⟩
         · rw [if_neg c6] at H; exact absurd H (by simp)
       · rw [if_neg c5] at H; exact absurd H (by simp)
     · rw [if_neg c4] at H; have c4b0 : decide (x5_1 < (l0.length : Int)) = false := decide_eq_false c4; clear c4; obtain rfl := Option.some.inj H; go_wp2; repeat (go_quiet (fail); try go_wp2)
       go_ret; exact ⟨by first | rfl | (simp; done) | (simp [i64_w, i32_w]; done) | (simp [*]; done) | (simp [*, i64_w, i32_w]; done), by repeat (first | exact Drawn0.refl _ | apply Drawn0.step)⟩
 · rw [if_neg c3] at H; have c3b0 : ((l0.length : Int) == (l1.length : Int)) = false := beq_eq_false_iff_ne.mpr c3; have c3b1 : ((l0.length : Int) != (l1.length : Int)) = true := bne_iff_ne.mpr c3; have c3b2 : (l0.length == l1.length) = false := by first | simpa using c3 | (simp at c3 ⊢; omega)
   obtain rfl := Option.some.inj H; go_enter Try.func16, Try.ntmps16; go_wp2; repeat (go_quiet (fail); try go_wp2)
   go_ret; exact ⟨by first | rfl | (simp; done) | (simp [i64_w, i32_w]; done) | (simp [*]; done) | (simp [*, i64_w, i32_w]; done), by repeat (first | exact Drawn0.refl _ | apply Drawn0.step)⟩

/-! ### laws_eqInt64SS: function 42 -/
def laws_eqInt64SS.l0 : Nat → List (List Int) → List (List Int) → Int → Option (Bool)
  | 0, _, _, _ => none
  | k + 1, x0, x1, x5 => if x5 < (x0.length : Int) then (if 0 ≤ x5 then (if x5 < (x1.length : Int) then ((laws_eqInt64S.f k (rd_L1 x0 x5) (rd_L1 x1 x5)).bind fun t196 => (if t196 = true then (laws_eqInt64SS.l0 k x0 x1 (wrap64 (x5 + 1))) else (some false))) else (none)) else (none)) else (some true)
def laws_eqInt64SS.f (k : Nat) (l0 : List (List Int)) (l1 : List (List Int)) : Option (Bool) := if (l0.length : Int) = (l1.length : Int) then (laws_eqInt64SS.l0 k l0 l1 0) else (some false)
theorem laws_eqInt64SS.mono_l : ∀ k, (∀ y0 y1 y2, LeO (laws_eqInt64SS.l0 k y0 y1 y2) (laws_eqInt64SS.l0 (k + 1) y0 y1 y2))
  | 0 => fun _ _ _ r h => by simp [laws_eqInt64SS.l0] at h
  | k + 1 => by
    have ih0 := laws_eqInt64SS.mono_l k
    · intro y0 y1 y2
      unfold laws_eqInt64SS.l0
      repeat' first
      | (with_reducible exact ih0 _ _ _)
      | (with_reducible exact laws_eqInt64S.mono _ _ _)
      | (with_reducible exact LeO.refl _)
      | (with_reducible exact LeO.none _)
      | (with_reducible refine LeO.ite ?_ ?_)
      | (with_reducible refine LeO.bind ?_ (fun _ => ?_))
      | exact ih0 _ _ _
      | exact laws_eqInt64S.mono _ _ _
      | exact LeO.none _
      | refine LeO.ite ?_ ?_
      | refine LeO.bind ?_ (fun _ => ?_)
theorem laws_eqInt64SS.mono : ∀ a0 a1 k, LeO (laws_eqInt64SS.f k a0 a1) (laws_eqInt64SS.f (k + 1) a0 a1) := by
 intro a0 a1 k; have ih0 := laws_eqInt64SS.mono_l k; unfold laws_eqInt64SS.f; repeat' first
  | (with_reducible exact ih0 _ _ _)
  | (with_reducible exact laws_eqInt64S.mono _ _ _)
  | (with_reducible exact LeO.refl _)
  | (with_reducible exact LeO.none _)
  | (with_reducible refine LeO.ite ?_ ?_)
  | (with_reducible refine LeO.bind ?_ (fun _ => ?_))
  | exact ih0 _ _ _
  | exact laws_eqInt64S.mono _ _ _
  | exact LeO.none _
  | refine LeO.ite ?_ ?_
  | refine LeO.bind ?_ (fun _ => ?_)
set_option maxHeartbeats 8000000 in
set_option maxRecDepth 100000 in
theorem laws_eqInt64SS.calls (k : Nat) (A0 : Option Addr) (c0 : Nat) (l0 : List (List Int)) (A1 : Option Addr) (c1 : Nat) (l1 : List (List Int)) (r : Bool) (w : World) (hr0 : Kd.C (Kd.slice 2 (Kd.int .i64)) w A0 l0.length l0) (hc0 : l0.length ≤ c0) (hr1 : Kd.C (Kd.slice 2 (Kd.int .i64)) w A1 l1.length l1) (hc1 : l1.length ≤ c1) (h : laws_eqInt64SS.f k l0 l1 = some r) :
    Calls Try.prog 42 #[.slice A0 l0.length c0, .slice A1 l1.length c1] w fun e w' => e = .returned (.bool r) ∧ Drawn0 w w' := by
 have HR0 := Aside0.mk hr0; have HC0 := Aside0.mk hc0; clear hr0 hc0; have HR1 := Aside0.mk hr1; have HC1 := Aside0.mk hc1; clear hr1 hc1; have H : (if (l0.length : Int) = (l1.length : Int) then (laws_eqInt64SS.l0 k l0 l1 0) else (some false)) = some r := h; clear h; by_cases c3 : (l0.length : Int) = (l1.length : Int)
 · rw [if_pos c3] at H; have c3b0 : ((l0.length : Int) == (l1.length : Int)) = true := beq_iff_eq.mpr c3; have c3b1 : ((l0.length : Int) != (l1.length : Int)) = false := bne_eq_false_iff_eq.mpr c3; have c3b2 : (l0.length == l1.length) = true := by first | simpa using c3 | (simp at c3 ⊢; omega)
   clear c3; have H' := Aside0.mk H; clear H; go_enter Try.func42, Try.ntmps42; go_wp2; repeat (go_quiet (fail); try go_wp2)
   go_loopg [5] k (fun kq v5 w' => ∃ (x5_1 : Int), v5 = .int .i64 x5_1 ∧ Aside0 (laws_eqInt64SS.l0 kq l0 l1 x5_1 = some r) ∧ Aside0 (kq ≤ k) ∧ Drawn0 w w'); case atStart => exact ⟨(0), (by first | rfl | (simp; done) | (simp [i64_w, i32_w]; done) | (simp [*]; done) | (simp [*, i64_w, i32_w]; done)), H', ⟨Nat.le_refl _⟩, by repeat (first | exact Drawn0.refl _ | apply Drawn0.step)⟩
   case round =>
    clear H'; (try clear c1); (try clear p2); (try clear c3); (try clear c3b0); (try clear c3b1); (try clear c3b2); obtain ⟨x5_1, rfl, HA, HK1, ⟨m1, rfl⟩⟩ := hrel; cases gk with
    | zero => exact absurd HA.out (by simp [laws_eqInt64SS.l0])
    | succ k1 =>
     have H := HA.out; clear HA; simp only [laws_eqInt64SS.l0] at H; by_cases c4 : x5_1 < (l0.length : Int)
     · rw [if_pos c4] at H; have c4b0 : decide (x5_1 < (l0.length : Int)) = true := decide_eq_true c4; clear c4; by_cases c5 : 0 ≤ x5_1
       · rw [if_pos c5] at H; have c5b0 : decide (0 ≤ x5_1) = true := decide_eq_true c5; clear c5; by_cases c6 : x5_1 < (l1.length : Int)
         · rw [if_pos c6] at H; have c6b0 : decide (x5_1 < (l1.length : Int)) = true := decide_eq_true c6; clear c6; replace H := Option.bind_eq_some_iff.mp H; obtain ⟨t196, A70, H⟩ := H; replace H : (if t196 = true then (laws_eqInt64SS.l0 k1 l0 l1 (wrap64 (x5_1 + 1))) else (some false)) = some r := H; have A7 := Aside0.mk A70; clear A70; by_cases c8 : t196 = true
           · subst c8; have H1 : (laws_eqInt64SS.l0 k1 l0 l1 (wrap64 (x5_1 + 1))) = some r := by rw [if_pos rfl] at H; exact H
             clear H; have H := H1; clear H1; have H' := Aside0.mk H; clear H; have p194 : 0 ≤ (x5_1 : Int) := of_decide_eq_true (by first | (with_reducible assumption) | assumption); have q194 : x5_1 < (l0.length : Int) := of_decide_eq_true (by first | (with_reducible assumption) | assumption); obtain ⟨ad194, A194_0, c194_0, e194, hx194_0, hl194_0, hi194_0⟩ := at_L1 HR0.out x5_1 p194 q194; cases e194
             have HR194_0 := Aside0.mk hi194_0; have HC194_0 := Aside0.mk hl194_0; clear hi194_0 hl194_0; replace p194 := eq_true p194; replace q194 := eq_true q194; have p195 : 0 ≤ (x5_1 : Int) := of_decide_eq_true (by first | (with_reducible assumption) | assumption); have q195 : x5_1 < (l1.length : Int) := of_decide_eq_true (by first | (with_reducible assumption) | assumption); obtain ⟨ad195, A195_0, c195_0, e195, hx195_0, hl195_0, hi195_0⟩ := at_L1 HR1.out x5_1 p195 q195; cases e195
             have HR195_0 := Aside0.mk hi195_0; have HC195_0 := Aside0.mk hl195_0; clear hi195_0 hl195_0; replace p195 := eq_true p195; replace q195 := eq_true q195; go_wp2_with (first | (go_at_call 16; (with_reducible refine (laws_eqInt64S.calls k1 _ _ (rd_L1 l0 x5_1) _ _ (rd_L1 l1 x5_1) true _ ?side1 ?side2 ?side3 ?side4 A7.out).mono ?_); (case side1 => repeat (first | exact HR194_0.out | (with_reducible refine Kd.C_alloc ?_ _) | (with_reducible refine Kd.C_drewN ?_ _) | (with_reducible refine Kd.C_drew ?_))); (case side2 => exact HC194_0.out); (case side3 => repeat (first | exact HR195_0.out | (with_reducible refine Kd.C_alloc ?_ _) | (with_reducible refine Kd.C_drewN ?_ _) | (with_reducible refine Kd.C_drew ?_))); (case side4 => exact HC195_0.out); rintro e w' ⟨rfl, ⟨nd, rfl⟩⟩; (try first | exact ⟨rfl, _, World.drewN_drewN _ _ _⟩ | exact ⟨rfl, _, Eq.trans (World.drewN_drewN _ _ _) (congrArg (World.drewN _) (Nat.add_assoc _ _ _))⟩))); repeat (go_quiet (first | (go_at_call 16; (with_reducible refine (laws_eqInt64S.calls k1 _ _ (rd_L1 l0 x5_1) _ _ (rd_L1 l1 x5_1) true _ ?side1 ?side2 ?side3 ?side4 A7.out).mono ?_); (case side1 => repeat (first | exact HR194_0.out | (with_reducible refine Kd.C_alloc ?_ _) | (with_reducible refine Kd.C_drewN ?_ _) | (with_reducible refine Kd.C_drew ?_))); (case side2 => exact HC194_0.out); (case side3 => repeat (first | exact HR195_0.out | (with_reducible refine Kd.C_alloc ?_ _) | (with_reducible refine Kd.C_drewN ?_ _) | (with_reducible refine Kd.C_drew ?_))); (case side4 => exact HC195_0.out); rintro e w' ⟨rfl, ⟨nd, rfl⟩⟩; (try first | exact ⟨rfl, _, World.drewN_drewN _ _ _⟩ | exact ⟨rfl, _, Eq.trans (World.drewN_drewN _ _ _) (congrArg (World.drewN _) (Nat.add_assoc _ _ _))⟩))); try go_wp2_with (first | (go_at_call 16; (with_reducible refine (laws_eqInt64S.calls k1 _ _ (rd_L1 l0 x5_1) _ _ (rd_L1 l1 x5_1) true _ ?side1 ?side2 ?side3 ?side4 A7.out).mono ?_); (case side1 => repeat (first | exact HR194_0.out | (with_reducible refine Kd.C_alloc ?_ _) | (with_reducible refine Kd.C_drewN ?_ _) | (with_reducible refine Kd.C_drew ?_))); (case side2 => exact HC194_0.out); (case side3 => repeat (first | exact HR195_0.out | (with_reducible refine Kd.C_alloc ?_ _) | (with_reducible refine Kd.C_drewN ?_ _) | (with_reducible refine Kd.C_drew ?_))); (case side4 => exact HC195_0.out); rintro e w' ⟨rfl, ⟨nd, rfl⟩⟩; (try first | exact ⟨rfl, _, World.drewN_drewN _ _ _⟩ | exact ⟨rfl, _, Eq.trans (World.drewN_drewN _ _ _) (congrArg (World.drewN _) (Nat.add_assoc _ _ _))⟩))))
             go_roundg k1; case measure => have := HK1.out; omega
             case rel => exact ⟨(wrap64 (x5_1 + 1)), (by first | rfl | (simp; done) | (simp [i64_w, i32_w]; done) | (simp [*]; done) | (simp [*, i64_w, i32_w]; done)), H', ⟨by have := HK1.out; omega⟩, by repeat (first | exact Drawn0.refl _ | apply Drawn0.step)⟩
           · replace c8 := Bool.eq_false_iff.mpr c8; subst c8; have H1 : (some false) = some r := by rw [if_neg (show ¬ (false = true) by decide)] at H; exact H
             clear H; have H := H1; clear H1; obtain rfl := Option.some.inj H; have p194 : 0 ≤ (x5_1 : Int) := of_decide_eq_true (by first | (with_reducible assumption) | assumption); have q194 : x5_1 < (l0.length : Int) := of_decide_eq_true (by first | (with_reducible assumption) | assumption); obtain ⟨ad194, A194_0, c194_0, e194, hx194_0, hl194_0, hi194_0⟩ := at_L1 HR0.out x5_1 p194 q194; cases e194
             have HR194_0 := Aside0.mk hi194_0; have HC194_0 := Aside0.mk hl194_0; clear hi194_0 hl194_0; replace p194 := eq_true p194; replace q194 := eq_true q194; have p195 : 0 ≤ (x5_1 : Int) := of_decide_eq_true (by first | (with_reducible assumption) | assumption); have q195 : x5_1 < (l1.length : Int) := of_decide_eq_true (by first | (with_reducible assumption) | assumption); obtain ⟨ad195, A195_0, c195_0, e195, hx195_0, hl195_0, hi195_0⟩ := at_L1 HR1.out x5_1 p195 q195; cases e195
             have HR195_0 := Aside0.mk hi195_0; have HC195_0 := Aside0.mk hl195_0; clear hi195_0 hl195_0; replace p195 := eq_true p195; replace q195 := eq_true q195; go_wp2_with (first | (go_at_call 16; (with_reducible refine (laws_eqInt64S.calls k1 _ _ (rd_L1 l0 x5_1) _ _ (rd_L1 l1 x5_1) false _ ?side1 ?side2 ?side3 ?side4 A7.out).mono ?_); (case side1 => repeat (first | exact HR194_0.out | (with_reducible refine Kd.C_alloc ?_ _) | (with_reducible refine Kd.C_drewN ?_ _) | (with_reducible refine Kd.C_drew ?_))); (case side2 => exact HC194_0.out); (case side3 => repeat (first | exact HR195_0.out | (with_reducible refine Kd.C_alloc ?_ _) | (with_reducible refine Kd.C_drewN ?_ _) | (with_reducible refine Kd.C_drew ?_))); (case side4 => exact HC195_0.out); rintro e w' ⟨rfl, ⟨nd, rfl⟩⟩; (try first | exact ⟨rfl, _, World.drewN_drewN _ _ _⟩ | exact ⟨rfl, _, Eq.trans (World.drewN_drewN _ _ _) (congrArg (World.drewN _) (Nat.add_assoc _ _ _))⟩))); repeat (go_quiet (first | (go_at_call 16; (with_reducible refine (laws_eqInt64S.calls k1 _ _ (rd_L1 l0 x5_1) _ _ (rd_L1 l1 x5_1) false _ ?side1 ?side2 ?side3 ?side4 A7.out).mono ?_); (case side1 => repeat (first | exact HR194_0.out | (with_reducible refine Kd.C_alloc ?_ _) | (with_reducible refine Kd.C_drewN ?_ _) | (with_reducible refine Kd.C_drew ?_))); (case side2 => exact HC194_0.out); (case side3 => repeat (first | exact HR195_0.out | (with_reducible refine Kd.C_alloc ?_ _) | (with_reducible refine Kd.C_drewN ?_ _) | (with_reducible refine Kd.C_drew ?_))); (case side4 => exact HC195_0.out); rintro e w' ⟨rfl, ⟨nd, rfl⟩⟩; (try first | exact ⟨rfl, _, World.drewN_drewN _ _ _⟩ | exact ⟨rfl, _, Eq.trans (World.drewN_drewN _ _ _) (congrArg (World.drewN _) (Nat.add_assoc _ _ _))⟩))); try go_wp2_with (first | (go_at_call 16; (with_reducible refine (laws_eqInt64S.calls k1 _ _ (rd_L1 l0 x5_1) _ _ (rd_L1 l1 x5_1) false _ ?side1 ?side2 ?side3 ?side4 A7.out).mono ?_); (case side1 => repeat (first | exact HR194_0.out | (with_reducible refine Kd.C_alloc ?_ _) | (with_reducible refine Kd.C_drewN ?_ _) | (with_reducible refine Kd.C_drew ?_))); (case side2 => exact HC194_0.out); (case side3 => repeat (first | exact HR195_0.out | (with_reducible refine Kd.C_alloc ?_ _) | (with_reducible refine Kd.C_drewN ?_ _) | (with_reducible refine Kd.C_drew ?_))); (case side4 => exact HC195_0.out); rintro e w' ⟨rfl, ⟨nd, rfl⟩⟩; (try first | exact ⟨rfl, _, World.drewN_drewN _ _ _⟩ | exact ⟨rfl, _, Eq.trans (World.drewN_drewN _ _ _) (congrArg (World.drewN _) (Nat.add_assoc _ _ _))⟩))))
             go_ret; exact ⟨by first | rfl | (simp; done) | (simp [i64_w, i32_w]; done) | (simp [*]; done) | (simp [*, i64_w, i32_w]; done), by repeat (first | exact Drawn0.refl _ | apply Drawn0.step)⟩
         · rw [if_neg c6] at H; exact absurd H (by simp)
       · rw [if_neg c5] at H; exact absurd H (by simp)
     · rw [if_neg c4] at H; have c4b0 : decide (x5_1 < (l0.length : Int)) = false := decide_eq_false c4; clear c4; obtain rfl := Option.some.inj H; go_wp2; repeat (go_quiet (fail); try go_wp2)
       go_ret; exact ⟨by first | rfl | (simp; done) | (simp [i64_w, i32_w]; done) | (simp [*]; done) | (simp [*, i64_w, i32_w]; done), by repeat (first | exact Drawn0.refl _ | apply Drawn0.step)⟩
 · rw [if_neg c3] at H; have c3b0 : ((l0.length : Int) == (l1.length : Int)) = false := beq_eq_false_iff_ne.mpr c3; have c3b1 : ((l0.length : Int) != (l1.length : Int)) = true := bne_iff_ne.mpr c3; have c3b2 : (l0.length == l1.length) = false := by first | simpa using c3 | (simp at c3 ⊢; omega)
   obtain rfl := Option.some.inj H; go_enter Try.func42, Try.ntmps42; go_wp2; repeat (go_quiet (fail); try go_wp2)
   go_ret; exact ⟨by first | rfl | (simp; done) | (simp [i64_w, i32_w]; done) | (simp [*]; done) | (simp [*, i64_w, i32_w]; done), by repeat (first | exact Drawn0.refl _ | apply Drawn0.step)⟩

/-! ### laws_FnExactLeastReach: function 9 -/
def laws_FnExactLeastReach.j0 : Nat → List (List Int) → List (List Int) → List (List Int) → List (List Int) → Bool → Option (Bool)
  | 0, _, _, _, _, _ => none
  | k + 1, x1, x2, x10, x11, x51 => if x51 = true then (some false) else ((laws_toInt64SS.f k x1).bind fun t215 => ((laws_eqInt64SS.f k x10 t215).bind fun t218 => (if t218 = true then ((laws_toInt64SS.f k x2).bind fun t219 => ((laws_eqInt64SS.f k x11 t219).bind fun t222 => (if t222 = true then (some true) else (some false)))) else (some false))))
def laws_FnExactLeastReach.f (k : Nat) (a0 : Int) (l1 : List (List Int)) (l2 : List (List Int)) : Option (Bool) := (laws_szInt64SS.f k l1 1048576).bind fun t197 => (if t197 < 0 then (some true) else ((laws_szInt64SS.f k l2 t197).bind fun t198 => (if t198 < 0 then (some true) else ((laws_toInt64SS.f k l1).bind fun t199 => ((laws_toInt64SS.f k l2).bind fun t202 => ((spec_LeastReach.f k a0 t199 t202).bind fun bt205 => ((laws_toInt64SS.f k l1).bind fun t207 => ((laws_toInt64SS.f k l2).bind fun t210 => ((impl_LeastReach.f k a0 t207 t210).bind fun bt213 => (if bt213.1 = bt205.1 then (laws_FnExactLeastReach.j0 k l1 l2 t207 t210 (bt213.2 != bt205.2)) else (laws_FnExactLeastReach.j0 k l1 l2 t207 t210 true)))))))))))
theorem laws_FnExactLeastReach.mono_l : ∀ k, (∀ y0 y1 y2 y3 y4, LeO (laws_FnExactLeastReach.j0 k y0 y1 y2 y3 y4) (laws_FnExactLeastReach.j0 (k + 1) y0 y1 y2 y3 y4))
  | 0 => fun _ _ _ _ _ r h => by simp [laws_FnExactLeastReach.j0] at h
  | k + 1 => by
    have ih0 := laws_FnExactLeastReach.mono_l k
    · intro y0 y1 y2 y3 y4
      unfold laws_FnExactLeastReach.j0
      repeat' first
      | (with_reducible exact ih0 _ _ _ _ _)
      | (with_reducible exact impl_LeastReach.mono _ _ _ _)
      | (with_reducible exact laws_eqInt64SS.mono _ _ _)
      | (with_reducible exact laws_szInt64SS.mono _ _ _)
      | (with_reducible exact laws_toInt64SS.mono _ _)
      | (with_reducible exact spec_LeastReach.mono _ _ _ _)
      | (with_reducible exact LeO.refl _)
      | (with_reducible exact LeO.none _)
      | (with_reducible refine LeO.ite ?_ ?_)
      | (with_reducible refine LeO.bind ?_ (fun _ => ?_))
      | exact ih0 _ _ _ _ _
      | exact impl_LeastReach.mono _ _ _ _
      | exact laws_eqInt64SS.mono _ _ _
      | exact laws_szInt64SS.mono _ _ _
      | exact laws_toInt64SS.mono _ _
      | exact spec_LeastReach.mono _ _ _ _
      | exact LeO.none _
      | refine LeO.ite ?_ ?_
      | refine LeO.bind ?_ (fun _ => ?_)
theorem laws_FnExactLeastReach.mono : ∀ a0 a1 a2 k, LeO (laws_FnExactLeastReach.f k a0 a1 a2) (laws_FnExactLeastReach.f (k + 1) a0 a1 a2) := by
 intro a0 a1 a2 k; have ih0 := laws_FnExactLeastReach.mono_l k; unfold laws_FnExactLeastReach.f; repeat' first
  | (with_reducible exact ih0 _ _ _ _ _)
  | (with_reducible exact impl_LeastReach.mono _ _ _ _)
  | (with_reducible exact laws_eqInt64SS.mono _ _ _)
  | (with_reducible exact laws_szInt64SS.mono _ _ _)
  | (with_reducible exact laws_toInt64SS.mono _ _)
  | (with_reducible exact spec_LeastReach.mono _ _ _ _)
  | (with_reducible exact LeO.refl _)
  | (with_reducible exact LeO.none _)
  | (with_reducible refine LeO.ite ?_ ?_)
  | (with_reducible refine LeO.bind ?_ (fun _ => ?_))
  | exact ih0 _ _ _ _ _
  | exact impl_LeastReach.mono _ _ _ _
  | exact laws_eqInt64SS.mono _ _ _
  | exact laws_szInt64SS.mono _ _ _
  | exact laws_toInt64SS.mono _ _
  | exact spec_LeastReach.mono _ _ _ _
  | exact LeO.none _
  | refine LeO.ite ?_ ?_
  | refine LeO.bind ?_ (fun _ => ?_)
set_option maxHeartbeats 8000000 in
set_option maxRecDepth 100000 in
theorem laws_FnExactLeastReach.calls (k : Nat) (a0 : Int) (A1 : Option Addr) (c1 : Nat) (l1 : List (List Int)) (A2 : Option Addr) (c2 : Nat) (l2 : List (List Int)) (r : Bool) (w : World) (hr1 : Kd.C (Kd.slice 2 (Kd.int .i64)) w A1 l1.length l1) (hc1 : l1.length ≤ c1) (hr2 : Kd.C (Kd.slice 2 (Kd.int .i64)) w A2 l2.length l2) (hc2 : l2.length ≤ c2) (hr_ : r = true) (h : laws_FnExactLeastReach.f k a0 l1 l2 = some r) :
    Calls Try.prog 9 #[.int .i64 a0, .slice A1 l1.length c1, .slice A2 l2.length c2] w fun e w' => e = .returned (.bool r) ∧ Below w.heap.size w w' := by
 have HR1 := Aside0.mk hr1; have HC1 := Aside0.mk hc1; clear hr1 hc1; have HR2 := Aside0.mk hr2; have HC2 := Aside0.mk hc2; clear hr2 hc2; have HB := Aside0.mk (Below.refl w.heap.size w); have H : ((laws_szInt64SS.f k l1 1048576).bind fun t197 => (if t197 < 0 then (some true) else ((laws_szInt64SS.f k l2 t197).bind fun t198 => (if t198 < 0 then (some true) else ((laws_toInt64SS.f k l1).bind fun t199 => ((laws_toInt64SS.f k l2).bind fun t202 => ((spec_LeastReach.f k a0 t199 t202).bind fun bt205 => ((laws_toInt64SS.f k l1).bind fun t207 => ((laws_toInt64SS.f k l2).bind fun t210 => ((impl_LeastReach.f k a0 t207 t210).bind fun bt213 => (if bt213.1 = bt205.1 then (laws_FnExactLeastReach.j0 k l1 l2 t207 t210 (bt213.2 != bt205.2)) else (laws_FnExactLeastReach.j0 k l1 l2 t207 t210 true)))))))))))) = some r := h; clear h; replace H := Option.bind_eq_some_iff.mp H; obtain ⟨t197, A40, H⟩ := H; replace H : (if t197 < 0 then (some true) else ((laws_szInt64SS.f k l2 t197).bind fun t198 => (if t198 < 0 then (some true) else ((laws_toInt64SS.f k l1).bind fun t199 => ((laws_toInt64SS.f k l2).bind fun t202 => ((spec_LeastReach.f k a0 t199 t202).bind fun bt205 => ((laws_toInt64SS.f k l1).bind fun t207 => ((laws_toInt64SS.f k l2).bind fun t210 => ((impl_LeastReach.f k a0 t207 t210).bind fun bt213 => (if bt213.1 = bt205.1 then (laws_FnExactLeastReach.j0 k l1 l2 t207 t210 (bt213.2 != bt205.2)) else (laws_FnExactLeastReach.j0 k l1 l2 t207 t210 true))))))))))) = some r := H; have A4 := Aside0.mk A40; clear A40
 by_cases c5 : t197 < 0
 · rw [if_pos c5] at H; have c5b0 : decide (t197 < 0) = true := decide_eq_true c5; clear c5; obtain rfl := Option.some.inj H; go_enter Try.func9, Try.ntmps9; go_wp2_with (first | ((with_reducible refine gate_callee (f := 38) rfl ?_); refine gL_ (some 16) Try.func38 #[.slice A1 l1.length c1, .int .i64 1048576] ?_; (with_reducible refine (laws_szInt64SS.calls k _ _ l1 1048576 t197 _ ?side1 ?side2 A4.out).mono ?_); (case side1 => repeat (first | exact HR1.out | (with_reducible refine Kd.C_alloc ?_ _) | (with_reducible refine Kd.C_drewN ?_ _) | (with_reducible refine Kd.C_drew ?_))); (case side2 => exact HC1.out); rintro e w' ⟨rfl, ⟨nd, rfl⟩⟩; refine ⟨_, rfl, ?_⟩)); go_ret; exact ⟨by first | rfl | (simp [errW_none, errW_some] <;> rfl) | (simp [*, errW_none, errW_some] <;> rfl), bk_ HB.out⟩
 · rw [if_neg c5] at H; have c5b0 : decide (t197 < 0) = false := decide_eq_false c5; clear c5; replace H := Option.bind_eq_some_iff.mp H; obtain ⟨t198, A60, H⟩ := H; replace H : (if t198 < 0 then (some true) else ((laws_toInt64SS.f k l1).bind fun t199 => ((laws_toInt64SS.f k l2).bind fun t202 => ((spec_LeastReach.f k a0 t199 t202).bind fun bt205 => ((laws_toInt64SS.f k l1).bind fun t207 => ((laws_toInt64SS.f k l2).bind fun t210 => ((impl_LeastReach.f k a0 t207 t210).bind fun bt213 => (if bt213.1 = bt205.1 then (laws_FnExactLeastReach.j0 k l1 l2 t207 t210 (bt213.2 != bt205.2)) else (laws_FnExactLeastReach.j0 k l1 l2 t207 t210 true))))))))) = some r := H; have A6 := Aside0.mk A60; clear A60; by_cases c7 : t198 < 0
   · rw [if_pos c7] at H; have c7b0 : decide (t198 < 0) = true := decide_eq_true c7; clear c7; obtain rfl := Option.some.inj H; go_enter Try.func9, Try.ntmps9; go_wp2_with (first | ((with_reducible refine gate_callee (f := 38) rfl ?_); refine gL_ (some 16) Try.func38 #[.slice A1 l1.length c1, .int .i64 1048576] ?_; (with_reducible refine (laws_szInt64SS.calls k _ _ l1 1048576 t197 _ ?side1 ?side2 A4.out).mono ?_); (case side1 => repeat (first | exact HR1.out | (with_reducible refine Kd.C_alloc ?_ _) | (with_reducible refine Kd.C_drewN ?_ _) | (with_reducible refine Kd.C_drew ?_))); (case side2 => exact HC1.out); rintro e w' ⟨rfl, ⟨nd, rfl⟩⟩; refine ⟨_, rfl, ?_⟩) | ((with_reducible refine gate_callee (f := 38) rfl ?_); refine gL_ (some 21) Try.func38 #[.slice A2 l2.length c2, .int .i64 t197] ?_; (with_reducible refine (laws_szInt64SS.calls k _ _ l2 t197 t198 _ ?side1 ?side2 A6.out).mono ?_); (case side1 => repeat (first | exact HR2.out | (with_reducible refine Kd.C_alloc ?_ _) | (with_reducible refine Kd.C_drewN ?_ _) | (with_reducible refine Kd.C_drew ?_))); (case side2 => exact HC2.out); rintro e w' ⟨rfl, ⟨nd, rfl⟩⟩; refine ⟨_, rfl, ?_⟩)); go_ret; exact ⟨by first | rfl | (simp [errW_none, errW_some] <;> rfl) | (simp [*, errW_none, errW_some] <;> rfl), bk_ HB.out⟩
   · rw [if_neg c7] at H; have c7b0 : decide (t198 < 0) = false := decide_eq_false c7; clear c7; replace H := Option.bind_eq_some_iff.mp H; obtain ⟨t199, A80, H⟩ := H; replace H : ((laws_toInt64SS.f k l2).bind fun t202 => ((spec_LeastReach.f k a0 t199 t202).bind fun bt205 => ((laws_toInt64SS.f k l1).bind fun t207 => ((laws_toInt64SS.f k l2).bind fun t210 => ((impl_LeastReach.f k a0 t207 t210).bind fun bt213 => (if bt213.1 = bt205.1 then (laws_FnExactLeastReach.j0 k l1 l2 t207 t210 (bt213.2 != bt205.2)) else (laws_FnExactLeastReach.j0 k l1 l2 t207 t210 true))))))) = some r := H; have A8 := Aside0.mk A80; clear A80; replace H := Option.bind_eq_some_iff.mp H; obtain ⟨t202, A90, H⟩ := H; replace H : ((spec_LeastReach.f k a0 t199 t202).bind fun bt205 => ((laws_toInt64SS.f k l1).bind fun t207 => ((laws_toInt64SS.f k l2).bind fun t210 => ((impl_LeastReach.f k a0 t207 t210).bind fun bt213 => (if bt213.1 = bt205.1 then (laws_FnExactLeastReach.j0 k l1 l2 t207 t210 (bt213.2 != bt205.2)) else (laws_FnExactLeastReach.j0 k l1 l2 t207 t210 true)))))) = some r := H; have A9 := Aside0.mk A90; clear A90; replace H := Option.bind_eq_some_iff.mp H; obtain ⟨⟨t205, t206⟩, A100, H⟩ := H; replace H : ((laws_toInt64SS.f k l1).bind fun t207 => ((laws_toInt64SS.f k l2).bind fun t210 => ((impl_LeastReach.f k a0 t207 t210).bind fun bt213 => (if bt213.1 = t205 then (laws_FnExactLeastReach.j0 k l1 l2 t207 t210 (bt213.2 != t206)) else (laws_FnExactLeastReach.j0 k l1 l2 t207 t210 true))))) = some r := H; have A10 := Aside0.mk A100
     clear A100; replace H := Option.bind_eq_some_iff.mp H; obtain ⟨t207, A110, H⟩ := H; replace H : ((laws_toInt64SS.f k l2).bind fun t210 => ((impl_LeastReach.f k a0 t207 t210).bind fun bt213 => (if bt213.1 = t205 then (laws_FnExactLeastReach.j0 k l1 l2 t207 t210 (bt213.2 != t206)) else (laws_FnExactLeastReach.j0 k l1 l2 t207 t210 true)))) = some r := H; have A11 := Aside0.mk A110; clear A110; replace H := Option.bind_eq_some_iff.mp H; obtain ⟨t210, A120, H⟩ := H; replace H : ((impl_LeastReach.f k a0 t207 t210).bind fun bt213 => (if bt213.1 = t205 then (laws_FnExactLeastReach.j0 k l1 l2 t207 t210 (bt213.2 != t206)) else (laws_FnExactLeastReach.j0 k l1 l2 t207 t210 true))) = some r := H; have A12 := Aside0.mk A120; clear A120; replace H := Option.bind_eq_some_iff.mp H; obtain ⟨⟨t213, t214⟩, A130, H⟩ := H; replace H : (if t213 = t205 then (laws_FnExactLeastReach.j0 k l1 l2 t207 t210 (t214 != t206)) else (laws_FnExactLeastReach.j0 k l1 l2 t207 t210 true)) = some r := H; have A13 := Aside0.mk A130; clear A130; have HC14 := Aside0.mk H; clear H; go_enter Try.func9, Try.ntmps9; go_upto_region 12 with (first | ((with_reducible refine gate_callee (f := 38) rfl ?_); refine gL_ (some 16) Try.func38 #[.slice A1 l1.length c1, .int .i64 1048576] ?_; (with_reducible refine (laws_szInt64SS.calls k _ _ l1 1048576 t197 _ ?side1 ?side2 A4.out).mono ?_); (case side1 => repeat (first | exact HR1.out | (with_reducible refine Kd.C_alloc ?_ _) | (with_reducible refine Kd.C_drewN ?_ _) | (with_reducible refine Kd.C_drew ?_))); (case side2 => exact HC1.out); rintro e w' ⟨rfl, ⟨nd, rfl⟩⟩; refine ⟨_, rfl, ?_⟩) | ((with_reducible refine gate_callee (f := 38) rfl ?_); refine gL_ (some 21) Try.func38 #[.slice A2 l2.length c2, .int .i64 t197] ?_; (with_reducible refine (laws_szInt64SS.calls k _ _ l2 t197 t198 _ ?side1 ?side2 A6.out).mono ?_); (case side1 => repeat (first | exact HR2.out | (with_reducible refine Kd.C_alloc ?_ _) | (with_reducible refine Kd.C_drewN ?_ _) | (with_reducible refine Kd.C_drew ?_))); (case side2 => exact HC2.out); rintro e w' ⟨rfl, ⟨nd, rfl⟩⟩; refine ⟨_, rfl, ?_⟩) | ((with_reducible refine gate_callee (f := 40) rfl ?_); refine gL_ (some 27) Try.func40 #[.slice A1 l1.length c1] ?_; (with_reducible refine (laws_toInt64SS.calls k _ _ l1 t199 _ ?side1 ?side2 A8.out).mono ?_); (case side1 => repeat (first | exact HR1.out | (with_reducible refine Kd.C_alloc ?_ _) | (with_reducible refine Kd.C_drewN ?_ _) | (with_reducible refine Kd.C_drew ?_))); (case side2 => exact HC1.out); rintro e w15 ⟨v200, rfl, ho0, hb⟩; refine ⟨_, rfl, ?_⟩; have n0_ := Aside0.mk (Kd.S_lower ho0 (below_size (bk_ HB.out))); have n1_ := Aside0.mk (below_step (bk_ HB.out) hb); clear HB; have HO201 := n0_; have HB := n1_; clear n0_ n1_; (try clear hb); (try clear hb2); (try clear hk); (try clear hi); (try clear ho0)) | ((with_reducible refine gate_callee (f := 40) rfl ?_); refine gL_ (some 29) Try.func40 #[.slice A2 l2.length c2] ?_; (with_reducible refine (laws_toInt64SS.calls k _ _ l2 t202 _ ?side1 ?side2 A9.out).mono ?_); (case side1 => exact ck_ (Kd.C_below HR2.out HB.out)); (case side2 => exact HC2.out); rintro e w16 ⟨v203, rfl, ho0, hb⟩; refine ⟨_, rfl, ?_⟩; have n0_ := Aside0.mk (Kd.S_elder' (by (with_reducible repeat (first | apply Kd.S_alloc | apply Kd.S_drewN | apply Kd.S_drew)); exact HO201.out) (Kd.S_base ho0) hb); have n1_ := Aside0.mk (Kd.S_lower (Kd.S_new' ho0 (Kd.S_lt (by (with_reducible repeat (first | apply Kd.S_alloc | apply Kd.S_drewN | apply Kd.S_drew)); exact HO201.out))) (below_size (bk_ HB.out))); have n2_ := Aside0.mk (below_step (bk_ HB.out) hb); clear HO201 HB; have HO201 := n0_; have HO204 := n1_; have HB := n2_; clear n0_ n1_ n2_; (try clear hb); (try clear hb2); (try clear hk); (try clear hi); (try clear ho0); obtain ⟨Ao17, co17, eo17⟩ := Kd.S_slice HO201.out; subst eo17; obtain ⟨Ao18, co18, eo18⟩ := Kd.S_slice HO204.out; subst eo18) | ((with_reducible refine gate_callee (f := 39) rfl ?_); refine gL_ (some 30) Try.func39 #[.int .i64 a0, .slice Ao17 t199.length co17, .slice Ao18 t202.length co18] ?_; (with_reducible refine (spec_LeastReach.calls k a0 _ _ t199 _ _ t202 t205 t206 _ ?side1 ?side2 ?side3 ?side4 A10.out).mono ?_); (case side1 => repeat (first | exact (Kd.S_reads' HO201.out).2.2 | (with_reducible refine Kd.C_alloc ?_ _) | (with_reducible refine Kd.C_drewN ?_ _) | (with_reducible refine Kd.C_drew ?_))); (case side2 => exact (Kd.S_reads' HO201.out).2.1); (case side3 => repeat (first | exact (Kd.S_reads' HO204.out).2.2 | (with_reducible refine Kd.C_alloc ?_ _) | (with_reducible refine Kd.C_drewN ?_ _) | (with_reducible refine Kd.C_drew ?_))); (case side4 => exact (Kd.S_reads' HO204.out).2.1); rintro e w19 ⟨rfl, hb⟩; refine ⟨_, rfl, ?_⟩; have n0_ := Aside0.mk (Kd.S_below (by (with_reducible repeat (first | apply Kd.S_alloc | apply Kd.S_drewN | apply Kd.S_drew)); exact HO201.out) hb); have n1_ := Aside0.mk (Kd.S_below (by (with_reducible repeat (first | apply Kd.S_alloc | apply Kd.S_drewN | apply Kd.S_drew)); exact HO204.out) hb); have n2_ := Aside0.mk (below_step (bk_ HB.out) hb); clear HO201 HO204 HB; have HO201 := n0_; have HO204 := n1_; have HB := n2_; clear n0_ n1_ n2_; (try clear hb); (try clear hb2); (try clear hk); (try clear hi)) | ((with_reducible refine gate_callee (f := 40) rfl ?_); refine gL_ (some 34) Try.func40 #[.slice A1 l1.length c1] ?_; (with_reducible refine (laws_toInt64SS.calls k _ _ l1 t207 _ ?side1 ?side2 A11.out).mono ?_); (case side1 => exact ck_ (Kd.C_below HR1.out HB.out)); (case side2 => exact HC1.out); rintro e w20 ⟨v208, rfl, ho0, hb⟩; refine ⟨_, rfl, ?_⟩; have n0_ := Aside0.mk (Kd.S_elder' (by (with_reducible repeat (first | apply Kd.S_alloc | apply Kd.S_drewN | apply Kd.S_drew)); exact HO201.out) (Kd.S_base ho0) hb); have n1_ := Aside0.mk (Kd.S_elder' (by (with_reducible repeat (first | apply Kd.S_alloc | apply Kd.S_drewN | apply Kd.S_drew)); exact HO204.out) (Kd.S_base ho0) hb); have n2_ := Aside0.mk (Kd.S_lower (Kd.S_new' (Kd.S_new' ho0 (Kd.S_lt (by (with_reducible repeat (first | apply Kd.S_alloc | apply Kd.S_drewN | apply Kd.S_drew)); exact HO201.out))) (Kd.S_lt (by (with_reducible repeat (first | apply Kd.S_alloc | apply Kd.S_drewN | apply Kd.S_drew)); exact HO204.out))) (below_size (bk_ HB.out))); have n3_ := Aside0.mk (below_step (bk_ HB.out) hb); clear HO201 HO204 HB; have HO201 := n0_; have HO204 := n1_; have HO209 := n2_; have HB := n3_; clear n0_ n1_ n2_ n3_; (try clear hb); (try clear hb2); (try clear hk); (try clear hi); (try clear ho0)) | ((with_reducible refine gate_callee (f := 40) rfl ?_); refine gL_ (some 36) Try.func40 #[.slice A2 l2.length c2] ?_; (with_reducible refine (laws_toInt64SS.calls k _ _ l2 t210 _ ?side1 ?side2 A12.out).mono ?_); (case side1 => exact ck_ (Kd.C_below HR2.out HB.out)); (case side2 => exact HC2.out); rintro e w21 ⟨v211, rfl, ho0, hb⟩; refine ⟨_, rfl, ?_⟩; have n0_ := Aside0.mk (Kd.S_elder' (by (with_reducible repeat (first | apply Kd.S_alloc | apply Kd.S_drewN | apply Kd.S_drew)); exact HO201.out) (Kd.S_base ho0) hb); have n1_ := Aside0.mk (Kd.S_elder' (by (with_reducible repeat (first | apply Kd.S_alloc | apply Kd.S_drewN | apply Kd.S_drew)); exact HO204.out) (Kd.S_base ho0) hb); have n2_ := Aside0.mk (Kd.S_elder' (by (with_reducible repeat (first | apply Kd.S_alloc | apply Kd.S_drewN | apply Kd.S_drew)); exact HO209.out) (Kd.S_base ho0) hb); have n3_ := Aside0.mk (Kd.S_lower (Kd.S_new' (Kd.S_new' (Kd.S_new' ho0 (Kd.S_lt (by (with_reducible repeat (first | apply Kd.S_alloc | apply Kd.S_drewN | apply Kd.S_drew)); exact HO201.out))) (Kd.S_lt (by (with_reducible repeat (first | apply Kd.S_alloc | apply Kd.S_drewN | apply Kd.S_drew)); exact HO204.out))) (Kd.S_lt (by (with_reducible repeat (first | apply Kd.S_alloc | apply Kd.S_drewN | apply Kd.S_drew)); exact HO209.out))) (below_size (bk_ HB.out))); have n4_ := Aside0.mk (below_step (bk_ HB.out) hb); clear HO201 HO204 HO209 HB; have HO201 := n0_; have HO204 := n1_; have HO209 := n2_; have HO212 := n3_; have HB := n4_; clear n0_ n1_ n2_ n3_ n4_; (try clear hb); (try clear hb2); (try clear hk); (try clear hi); (try clear ho0); obtain ⟨Ao22, co22, eo22⟩ := Kd.S_slice HO209.out; subst eo22; obtain ⟨Ao23, co23, eo23⟩ := Kd.S_slice HO212.out; subst eo23) | ((with_reducible refine gate_callee (f := 41) rfl ?_); refine gL_ (some 41) Try.func41 #[.int .i64 a0, .slice Ao22 t207.length co22, .slice Ao23 t210.length co23] ?_; (with_reducible refine (impl_LeastReach.calls k a0 _ _ t207 _ _ t210 t213 t214 _ ?side1 ?side2 ?side3 ?side4 A13.out).mono ?_); (case side1 => repeat (first | exact (Kd.S_reads' HO209.out).2.2 | (with_reducible refine Kd.C_alloc ?_ _) | (with_reducible refine Kd.C_drewN ?_ _) | (with_reducible refine Kd.C_drew ?_))); (case side2 => exact (Kd.S_reads' HO209.out).2.1); (case side3 => repeat (first | exact (Kd.S_reads' HO212.out).2.2 | (with_reducible refine Kd.C_alloc ?_ _) | (with_reducible refine Kd.C_drewN ?_ _) | (with_reducible refine Kd.C_drew ?_))); (case side4 => exact (Kd.S_reads' HO212.out).2.1); rintro e w24 ⟨rfl, hb⟩; refine ⟨_, rfl, ?_⟩; have n0_ := Aside0.mk (Kd.S_below (by (with_reducible repeat (first | apply Kd.S_alloc | apply Kd.S_drewN | apply Kd.S_drew)); exact HO201.out) hb); have n1_ := Aside0.mk (Kd.S_below (by (with_reducible repeat (first | apply Kd.S_alloc | apply Kd.S_drewN | apply Kd.S_drew)); exact HO204.out) hb); have n2_ := Aside0.mk (Kd.S_below (by (with_reducible repeat (first | apply Kd.S_alloc | apply Kd.S_drewN | apply Kd.S_drew)); exact HO209.out) hb); have n3_ := Aside0.mk (Kd.S_below (by (with_reducible repeat (first | apply Kd.S_alloc | apply Kd.S_drewN | apply Kd.S_drew)); exact HO212.out) hb); have n4_ := Aside0.mk (below_step (bk_ HB.out) hb); clear HO201 HO204 HO209 HO212 HB; have HO201 := n0_; have HO204 := n1_; have HO209 := n2_; have HO212 := n3_; have HB := n4_; clear n0_ n1_ n2_ n3_ n4_; (try clear hb); (try clear hb2); (try clear hk); (try clear hi)))
     (try simp only [Act.put, List.setIfInBounds_toArray, List.set_cons_zero, List.set_cons_succ]); go_cut [51] (fun v51 wc => ∃ (kq : Nat) (x51_13 : Bool), v51 = .bool x51_13 ∧ Aside0 (laws_FnExactLeastReach.j0 kq l1 l2 t207 t210 x51_13 = some r) ∧ Aside0 (kq ≤ k) ∧ Aside0 (Kd.S (Kd.slice 2 (Kd.int .i64)) 22 wc w.heap.size (fun k_ => some k_ ≠ ((.slice Ao23 t210.length co23) : Value).ownBlock) (.slice Ao22 t207.length co22) t207) ∧ Aside0 (Kd.S (Kd.slice 2 (Kd.int .i64)) 22 wc w.heap.size (fun k_ => some k_ ≠ ((.slice Ao22 t207.length co22) : Value).ownBlock) (.slice Ao23 t210.length co23) t210) ∧ Aside0 (Below w.heap.size w wc)); case first =>
      have H := HC14.out; clear HC14; by_cases c25 : t213 = t205
      · rw [if_pos c25] at H; have c25b0 : (t213 == t205) = true := beq_iff_eq.mpr c25; have c25b1 : (t213 != t205) = false := bne_eq_false_iff_eq.mpr c25; clear c25; (first | rw [c25b0] | (simp only [i64_w, i32_w]; rw [c25b0]) | skip); have H' := Aside0.mk H; clear H; go_wp2; go_meet; case rel => exact ⟨_, ((t214 != t206)), (by first | rfl | (simp; done) | (simp [i64_w, i32_w]; done) | (simp [*]; done) | (simp [*, i64_w, i32_w]; done)), H', ⟨by first | omega | exact Nat.le_refl _⟩, ⟨by (with_reducible repeat (first | apply Kd.S_alloc | apply Kd.S_drewN | apply Kd.S_drew)); exact Kd.S_mono HO209.out (fun _ hk => hk.2)⟩, ⟨by (with_reducible repeat (first | apply Kd.S_alloc | apply Kd.S_drewN | apply Kd.S_drew)); exact Kd.S_mono HO212.out (fun _ hk => hk.2)⟩, ⟨bk_ HB.out⟩⟩
      · rw [if_neg c25] at H; have c25b0 : (t213 == t205) = false := beq_eq_false_iff_ne.mpr c25; have c25b1 : (t213 != t205) = true := bne_iff_ne.mpr c25; (first | rw [c25b0] | (simp only [i64_w, i32_w]; rw [c25b0]) | skip); have H' := Aside0.mk H; clear H; go_wp2; go_meet; case rel => exact ⟨_, (true), (by first | rfl | (simp; done) | (simp [i64_w, i32_w]; done) | (simp [*]; done) | (simp [*, i64_w, i32_w]; done)), H', ⟨by first | omega | exact Nat.le_refl _⟩, ⟨by (with_reducible repeat (first | apply Kd.S_alloc | apply Kd.S_drewN | apply Kd.S_drew)); exact Kd.S_mono HO209.out (fun _ hk => hk.2)⟩, ⟨by (with_reducible repeat (first | apply Kd.S_alloc | apply Kd.S_drewN | apply Kd.S_drew)); exact Kd.S_mono HO212.out (fun _ hk => hk.2)⟩, ⟨bk_ HB.out⟩⟩
     case rest =>
      clear HC14; (try clear c1); (try clear c2); (try clear p2); (try clear c3); (try clear c4); (try clear c5); (try clear c5b0); (try clear c7); (try clear c7b0); (try clear c9); (try clear c25); (try clear c25b0); (try clear c25b1); obtain ⟨kq, x51_13, rfl, HA, HJ13, HO_10, HO_11, HB⟩ := hcut; cases kq with
      | zero => exact absurd HA.out (by simp [laws_FnExactLeastReach.j0])
      | succ kj13 =>
       have H := HA.out; clear HA; simp only [laws_FnExactLeastReach.j0] at H; by_cases c26 : x51_13 = true
       · subst c26; have H1 : (some false) = some r := by rw [if_pos rfl] at H; exact H
         clear H; have H := H1; clear H1; exact absurd (Option.some.inj H) (by rw [hr_]; decide)
       · replace c26 := Bool.eq_false_iff.mpr c26; subst c26; have H1 : ((laws_toInt64SS.f kj13 l1).bind fun t215 => ((laws_eqInt64SS.f kj13 t207 t215).bind fun t218 => (if t218 = true then ((laws_toInt64SS.f kj13 l2).bind fun t219 => ((laws_eqInt64SS.f kj13 t210 t219).bind fun t222 => (if t222 = true then (some true) else (some false)))) else (some false)))) = some r := by rw [if_neg (show ¬ (false = true) by decide)] at H; exact H
         clear H; have H := H1; clear H1; replace H := Option.bind_eq_some_iff.mp H; obtain ⟨t215, A270, H⟩ := H; replace H : ((laws_eqInt64SS.f kj13 t207 t215).bind fun t218 => (if t218 = true then ((laws_toInt64SS.f kj13 l2).bind fun t219 => ((laws_eqInt64SS.f kj13 t210 t219).bind fun t222 => (if t222 = true then (some true) else (some false)))) else (some false))) = some r := H; have A27 := Aside0.mk A270; clear A270; replace H := Option.bind_eq_some_iff.mp H; obtain ⟨t218, A280, H⟩ := H; replace H : (if t218 = true then ((laws_toInt64SS.f kj13 l2).bind fun t219 => ((laws_eqInt64SS.f kj13 t210 t219).bind fun t222 => (if t222 = true then (some true) else (some false)))) else (some false)) = some r := H; have A28 := Aside0.mk A280; clear A280; by_cases c29 : t218 = true
         · subst c29; have H1 : ((laws_toInt64SS.f kj13 l2).bind fun t219 => ((laws_eqInt64SS.f kj13 t210 t219).bind fun t222 => (if t222 = true then (some true) else (some false)))) = some r := by rw [if_pos rfl] at H; exact H
           clear H; have H := H1; clear H1; replace H := Option.bind_eq_some_iff.mp H; obtain ⟨t219, A300, H⟩ := H; replace H : ((laws_eqInt64SS.f kj13 t210 t219).bind fun t222 => (if t222 = true then (some true) else (some false))) = some r := H; have A30 := Aside0.mk A300; clear A300; replace H := Option.bind_eq_some_iff.mp H; obtain ⟨t222, A310, H⟩ := H; replace H : (if t222 = true then (some true) else (some false)) = some r := H; have A31 := Aside0.mk A310; clear A310; by_cases c32 : t222 = true
           · subst c32; have H1 : (some true) = some r := by rw [if_pos rfl] at H; exact H
             clear H; have H := H1; clear H1; obtain rfl := Option.some.inj H; go_wp2_with (first | ((with_reducible refine gate_callee (f := 40) rfl ?_); refine gL_ (some 54) Try.func40 #[.slice A1 l1.length c1] ?_; (with_reducible refine (laws_toInt64SS.calls kj13 _ _ l1 t215 _ ?side1 ?side2 A27.out).mono ?_); (case side1 => exact ck_ (Kd.C_below HR1.out HB.out)); (case side2 => exact HC1.out); rintro e w33 ⟨v216, rfl, ho0, hb⟩; refine ⟨_, rfl, ?_⟩; have n0_ := Aside0.mk (Kd.S_elder' (by (with_reducible repeat (first | apply Kd.S_alloc | apply Kd.S_drewN | apply Kd.S_drew)); exact HO_10.out) (Kd.S_base ho0) hb); have n1_ := Aside0.mk (Kd.S_elder' (by (with_reducible repeat (first | apply Kd.S_alloc | apply Kd.S_drewN | apply Kd.S_drew)); exact HO_11.out) (Kd.S_base ho0) hb); have n2_ := Aside0.mk (Kd.S_lower (Kd.S_new' (Kd.S_new' ho0 (Kd.S_lt (by (with_reducible repeat (first | apply Kd.S_alloc | apply Kd.S_drewN | apply Kd.S_drew)); exact HO_10.out))) (Kd.S_lt (by (with_reducible repeat (first | apply Kd.S_alloc | apply Kd.S_drewN | apply Kd.S_drew)); exact HO_11.out))) (below_size (bk_ HB.out))); have n3_ := Aside0.mk (below_step (bk_ HB.out) hb); clear HO_10 HO_11 HB; have HO_10 := n0_; have HO_11 := n1_; have HO217 := n2_; have HB := n3_; clear n0_ n1_ n2_ n3_; (try clear hb); (try clear hb2); (try clear hk); (try clear hi); (try clear ho0); obtain ⟨Ao34, co34, eo34⟩ := Kd.S_slice HO217.out; subst eo34) | ((with_reducible refine gate_callee (f := 42) rfl ?_); refine gL_ (some 55) Try.func42 #[.slice Ao22 t207.length co22, .slice Ao34 t215.length co34] ?_; (with_reducible refine (laws_eqInt64SS.calls kj13 _ _ t207 _ _ t215 true _ ?side1 ?side2 ?side3 ?side4 A28.out).mono ?_); (case side1 => repeat (first | exact (Kd.S_reads' HO_10.out).2.2 | (with_reducible refine Kd.C_alloc ?_ _) | (with_reducible refine Kd.C_drewN ?_ _) | (with_reducible refine Kd.C_drew ?_))); (case side2 => exact (Kd.S_reads' HO_10.out).2.1); (case side3 => repeat (first | exact (Kd.S_reads' HO217.out).2.2 | (with_reducible refine Kd.C_alloc ?_ _) | (with_reducible refine Kd.C_drewN ?_ _) | (with_reducible refine Kd.C_drew ?_))); (case side4 => exact (Kd.S_reads' HO217.out).2.1); rintro e w' ⟨rfl, ⟨nd, rfl⟩⟩; refine ⟨_, rfl, ?_⟩) | ((with_reducible refine gate_callee (f := 40) rfl ?_); refine gL_ (some 59) Try.func40 #[.slice A2 l2.length c2] ?_; (with_reducible refine (laws_toInt64SS.calls kj13 _ _ l2 t219 _ ?side1 ?side2 A30.out).mono ?_); (case side1 => repeat (first | exact (Kd.C_below HR2.out (bk_ HB.out)) | (with_reducible refine Kd.C_alloc ?_ _) | (with_reducible refine Kd.C_drewN ?_ _) | (with_reducible refine Kd.C_drew ?_))); (case side2 => exact HC2.out); rintro e w35 ⟨v220, rfl, ho0, hb⟩; refine ⟨_, rfl, ?_⟩; have n0_ := Aside0.mk (Kd.S_elder' (by (with_reducible repeat (first | apply Kd.S_alloc | apply Kd.S_drewN | apply Kd.S_drew)); exact HO_10.out) (Kd.S_base ho0) hb); have n1_ := Aside0.mk (Kd.S_elder' (by (with_reducible repeat (first | apply Kd.S_alloc | apply Kd.S_drewN | apply Kd.S_drew)); exact HO_11.out) (Kd.S_base ho0) hb); have n2_ := Aside0.mk (Kd.S_elder' (by (with_reducible repeat (first | apply Kd.S_alloc | apply Kd.S_drewN | apply Kd.S_drew)); exact HO217.out) (Kd.S_base ho0) hb); have n3_ := Aside0.mk (Kd.S_lower (Kd.S_new' (Kd.S_new' (Kd.S_new' ho0 (Kd.S_lt (by (with_reducible repeat (first | apply Kd.S_alloc | apply Kd.S_drewN | apply Kd.S_drew)); exact HO_10.out))) (Kd.S_lt (by (with_reducible repeat (first | apply Kd.S_alloc | apply Kd.S_drewN | apply Kd.S_drew)); exact HO_11.out))) (Kd.S_lt (by (with_reducible repeat (first | apply Kd.S_alloc | apply Kd.S_drewN | apply Kd.S_drew)); exact HO217.out))) (below_size (bk_ HB.out))); have n4_ := Aside0.mk (below_step (bk_ HB.out) hb); clear HO_10 HO_11 HO217 HB; have HO_10 := n0_; have HO_11 := n1_; have HO217 := n2_; have HO221 := n3_; have HB := n4_; clear n0_ n1_ n2_ n3_ n4_; (try clear hb); (try clear hb2); (try clear hk); (try clear hi); (try clear ho0); obtain ⟨Ao36, co36, eo36⟩ := Kd.S_slice HO221.out; subst eo36) | ((with_reducible refine gate_callee (f := 42) rfl ?_); refine gL_ (some 60) Try.func42 #[.slice Ao23 t210.length co23, .slice Ao36 t219.length co36] ?_; (with_reducible refine (laws_eqInt64SS.calls kj13 _ _ t210 _ _ t219 true _ ?side1 ?side2 ?side3 ?side4 A31.out).mono ?_); (case side1 => repeat (first | exact (Kd.S_reads' HO_11.out).2.2 | (with_reducible refine Kd.C_alloc ?_ _) | (with_reducible refine Kd.C_drewN ?_ _) | (with_reducible refine Kd.C_drew ?_))); (case side2 => exact (Kd.S_reads' HO_11.out).2.1); (case side3 => repeat (first | exact (Kd.S_reads' HO221.out).2.2 | (with_reducible refine Kd.C_alloc ?_ _) | (with_reducible refine Kd.C_drewN ?_ _) | (with_reducible refine Kd.C_drew ?_))); (case side4 => exact (Kd.S_reads' HO221.out).2.1); rintro e w' ⟨rfl, ⟨nd, rfl⟩⟩; refine ⟨_, rfl, ?_⟩))
             go_ret; exact ⟨by first | rfl | (simp [errW_none, errW_some] <;> rfl) | (simp [*, errW_none, errW_some] <;> rfl), bk_ HB.out⟩
           · replace c32 := Bool.eq_false_iff.mpr c32; subst c32; have H1 : (some false) = some r := by rw [if_neg (show ¬ (false = true) by decide)] at H; exact H
             clear H; have H := H1; clear H1; exact absurd (Option.some.inj H) (by rw [hr_]; decide)
         · replace c29 := Bool.eq_false_iff.mpr c29; subst c29; have H1 : (some false) = some r := by rw [if_neg (show ¬ (false = true) by decide)] at H; exact H
           clear H; have H := H1; clear H1; exact absurd (Option.some.inj H) (by rw [hr_]; decide)

/-- THE ONE PURE STATEMENT of laws_FnExactLeastReach. -/
def laws_FnExactLeastReach.Pure : Prop := ∀ (a0 : Int) (l1 : List (List Int)) (l2 : List (List Int)), ((Lit.int .i64 a0).wf = true) → ((∀ x0_ ∈ l1, (∀ x1_ ∈ x0_, (Lit.int .i64 x1_).wf = true) ∧ x0_.length * 8 ≤ 140737488351232 ∧ x0_.length ≤ 9223372036854775807) ∧ l1.length * 24 ≤ 140737488351232 ∧ l1.length ≤ 9223372036854775807) → ((∀ x0_ ∈ l2, (∀ x1_ ∈ x0_, (Lit.int .i64 x1_).wf = true) ∧ x0_.length * 8 ≤ 140737488351232 ∧ x0_.length ≤ 9223372036854775807) ∧ l2.length * 24 ≤ 140737488351232 ∧ l2.length ≤ 9223372036854775807) → ∃ k, laws_FnExactLeastReach.f k a0 l1 l2 = some true
theorem laws_FnExactLeastReach.walk (P : laws_FnExactLeastReach.Pure) (a0 : Int) (A1 : Option Addr) (c1 : Nat) (l1 : List (List Int)) (A2 : Option Addr) (c2 : Nat) (l2 : List (List Int)) (w : World) (hr1 : Kd.C (Kd.slice 2 (Kd.int .i64)) w A1 l1.length l1) (hc1 : l1.length ≤ c1) (hr2 : Kd.C (Kd.slice 2 (Kd.int .i64)) w A2 l2.length l2) (hc2 : l2.length ≤ c2) (G0 : (Lit.int .i64 a0).wf = true) (G1 : (∀ x0_ ∈ l1, (∀ x1_ ∈ x0_, (Lit.int .i64 x1_).wf = true) ∧ x0_.length * 8 ≤ 140737488351232 ∧ x0_.length ≤ 9223372036854775807) ∧ l1.length * 24 ≤ 140737488351232 ∧ l1.length ≤ 9223372036854775807) (G2 : (∀ x0_ ∈ l2, (∀ x1_ ∈ x0_, (Lit.int .i64 x1_).wf = true) ∧ x0_.length * 8 ≤ 140737488351232 ∧ x0_.length ≤ 9223372036854775807) ∧ l2.length * 24 ≤ 140737488351232 ∧ l2.length ≤ 9223372036854775807) :
    Calls Try.prog 9 #[.int .i64 a0, .slice A1 l1.length c1, .slice A2 l2.length c2] w fun e w' => e = .returned (.bool true) ∧ Below w.heap.size w w' := by
 obtain ⟨k, h⟩ := P a0 l1 l2 G0 G1 G2; refine (laws_FnExactLeastReach.calls k a0 A1 c1 l1 A2 c2 l2 true w hr1 hc1 hr2 hc2 rfl h).mono ?_; rintro e w' ⟨rfl, hd⟩; exact ⟨rfl, hd⟩

end Go.Proofs.Ytacjknmphgpjaaa.PFnExactLeastReach

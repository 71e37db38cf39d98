/- Words for the walk and for the pure half, as far as this claim comes to them. -/
import Derived.Test.YtjhodohmifemiaaVFnExactRecoverAllWLast
import Derived.Test.YtjhodohmifemiaaVFnExactRecoverAllWMore
import Derived.Test.YtjhodohmifemiaaVFnExactRecoverAllWKept
import Derived.Test.YtjhodohmifemiaaVFnExactRecoverAllWApart
import Derived.Test.YtjhodohmifemiaaVFnExactRecoverAllWTab
import Derived.Lib.ConvBytes
import Derived.KernelRfl
namespace Go.Proofs.YtjhodohmifemiaaW.PrintWords
open Go.RowKit Go.Proofs.YtjhodohmifemiaaW.PrintLast
namespace Kd
section
variable {α : Type} {d : Kd α} {e : Nat} {w W w1 : World} {base N : Nat} {ok : Nat → Prop} {v : Value} {xs : List α}
theorem size_named (_ : Below W.heap.size W w1) : ∃ N, N = W.heap.size := ⟨_, rfl⟩
theorem S_nlt {M : Nat} (hN : N = M) (h : S d e W base (fun k => ok k ∧ k < M) v xs) : S d e W base (fun k => ok k ∧ k < N) v xs := by
  subst hN
  exact h
theorem S_from (hN : N = W.heap.size) (h : S d e w1 W.heap.size ok v xs) : S d e w1 W.heap.size (fun k => ok k ∧ N ≤ k) v xs :=
  S_mono (S_bound h) (fun k hk => ⟨hk.1, by rw [hN]; exact hk.2.1⟩)
end
end Kd
namespace Kd
def B {α : Type} (d : Kd α) (e : Nat) (w : World) (base : Nat) (ok : Nat → Prop) (v : Value) (xs : List α) : Prop :=
  ∃ g c cs fr, v = .slice (some ⟨g, 0, none⟩) xs.length c ∧ xs.length ≤ c ∧ base ≤ g ∧ ok g ∧ w.heap[g]? = some (.cells cs e fr) ∧ xs.length ≤ fr.1 ∧ ∀ W : World, W.heap[g]? = some (.cells cs e fr) → d.C W (some ⟨g, 0, none⟩) xs.length xs
section
variable {α : Type} {d : Kd α} {e : Nat} {w W w1 : World} {base : Nat} {ok ok' : Nat → Prop} {u v : Value} {xs : List α}
theorem B_slice (h : B d e w base ok v xs) : ∃ A c, v = .slice A xs.length c := by
  obtain ⟨g, c, cs, fr, rfl, _⟩ := h
  exact ⟨_, _, rfl⟩
theorem B_reads' {A : Option Addr} {n c : Nat} (h : B d e w base ok (.slice A n c) xs) : n = xs.length ∧ n ≤ c ∧ d.C w A xs.length xs := by
  obtain ⟨g, c', cs, fr, he, hl, _, _, hb, _, hC⟩ := h
  injection he with h1 h2 h3
  subst h1
  exact ⟨h2, by omega, hC w hb⟩
theorem B_mono (h : B d e w base ok v xs) (hok : ∀ k, ok k → ok' k) : B d e w base ok' v xs := by
  obtain ⟨g, c, cs, fr, he, hl, hg, ho, r⟩ := h
  exact ⟨g, c, cs, fr, he, hl, hg, hok g ho, r⟩
theorem B_lower {base' : Nat} (h : B d e w base ok v xs) (hb : base' ≤ base) : B d e w base' ok v xs := by
  obtain ⟨g, c, cs, fr, he, hl, hg, r⟩ := h
  exact ⟨g, c, cs, fr, he, hl, Nat.le_trans hb hg, r⟩
theorem B_step (h : B d e w base ok v xs) (hm : ∀ k, ok k → k < w.heap.size → w1.heap[k]? = w.heap[k]?) : B d e w1 base ok v xs := by
  obtain ⟨g, c, cs, fr, he, hl, hg, ho, hb, r⟩ := h
  exact ⟨g, c, cs, fr, he, hl, hg, ho, (hm g ho (blk_lt hb)).trans hb, r⟩
theorem B_bound (h : B d e w base ok v xs) : B d e w base (fun k => ok k ∧ base ≤ k ∧ k < w.heap.size ∧ ∃ cells fr, w.heap[k]? = some (.cells cells e fr)) v xs := by
  obtain ⟨g, c, cs, fr, he, hl, hg, ho, hb, r⟩ := h
  exact ⟨g, c, cs, fr, he, hl, hg, ⟨ho, hg, blk_lt hb, _, _, hb⟩, hb, r⟩
theorem B_below (h : B d e w base ok v xs) (hb : Below w.heap.size w w1) : B d e w1 base ok v xs := B_step h (fun k _ hk => hb.block k hk)
theorem B_alloc (h : B d e w base ok v xs) (o : Obj) : B d e (w.alloc o) base ok v xs := B_below h (below_alloc (Below.refl _ _) o)
theorem B_drew (h : B d e w base ok v xs) : B d e w.drew base ok v xs := B_below h (below_drew (Below.refl _ _))
theorem B_drewN (h : B d e w base ok v xs) (m : Nat) : B d e (w.drewN m) base ok v xs := B_below h (pw_below_drewN (Below.refl _ _) m)
theorem B_grown (h : B d e w base ok v xs) {row : Option Nat} (hg : w.grownBy w1 row) (hok : ∀ k, ok k → some k ≠ row) : B d e w1 base ok v xs := B_step h (fun k ho hk => hg.block k hk (hok k ho))
theorem B_own (h : B d e w base ok v xs) : ∀ k, v.ownBlock = some k → ok k ∧ base ≤ k ∧ k < w.heap.size ∧ ∃ cells fr, w.heap[k]? = some (.cells cells e fr) := by
  obtain ⟨g, c, cs, fr, rfl, _, hg, ho, hb, _⟩ := h
  intro k hk
  have : g = k := by simpa [Value.ownBlock] using hk
  subst this
  exact ⟨ho, hg, blk_lt hb, _, _, hb⟩
theorem B_lt (h : B d e w base ok v xs) : ∀ k, v.ownBlock = some k → k < w.heap.size := fun k hk => (B_own h k hk).2.2.1
theorem B_base (h : B d e w base ok v xs) : ∀ k, v.ownBlock = some k → base ≤ k := fun k hk => (B_own h k hk).2.1
theorem B_elder' (h : B d e W base ok v xs) (hbase : ∀ k, u.ownBlock = some k → W.heap.size ≤ k) (hb : Below W.heap.size W w1) : B d e w1 base (fun k => ok k ∧ some k ≠ u.ownBlock) v xs :=
  B_mono (B_step (B_bound h) (fun k hk _ => hb.block k hk.2.2.1)) (fun k hk => ⟨hk.1, fun he => by have := hbase k he.symm; have := hk.2.2.1; omega⟩)
theorem B_new' (h : B d e w1 W.heap.size ok v xs) (hlt : ∀ k, u.ownBlock = some k → k < W.heap.size) : B d e w1 W.heap.size (fun k => ok k ∧ some k ≠ u.ownBlock) v xs :=
  B_mono (B_bound h) (fun k hk => ⟨hk.1, fun he => by have := hlt k he.symm; have := hk.2.1; omega⟩)
theorem B_over' {e' : Nat} (h : B d e W base ok u xs) (hty : ∀ k, v.ownBlock = some k → ∃ cells, W.heap[k]? = some (.cells cells e' (0, 0))) (ht : ∀ q, q ∈ e :: d.E → q ≠ e') (hg : W.grownBy w1 v.ownBlock) : B d e w1 base ok u xs := by
  obtain ⟨g, c, cs, fr, he, hl, hb0, ho, hb, r⟩ := h
  refine ⟨g, c, cs, fr, he, hl, hb0, ho, (hg.block g (blk_lt hb) (fun hk => ?_)).trans hb, r⟩
  obtain ⟨cells, hc⟩ := hty g hk.symm
  rw [hb] at hc
  injection hc with hc
  injection hc with _ hc
  exact ht e List.mem_cons_self hc
end
section
variable {P : Program} {ops : Array Oper} {rest : List Oper} {o : Oper} {a : Act} {Q : Exit → Act → World → Prop}
theorem bytesOf_length (s : ByteArray) : (bytesOf s).length = s.size := by
  unfold bytesOf
  rw [List.length_map, Array.length_toList]
  rfl
theorem B_bytes {w0 W : World} (base e : Nat) (hgd : o.guard = none) {N : Tmp} (_hd : o.dst = some N) (src t : TypeId) (x : Operand) (ho : o.op = .convert src t x) (s : ByteArray) (hx : a.eval x = .string s)
    (hs : P.underlying src = some .string) (ht : P.underlying t = some (.slice e)) (he : P.underlying e = some (.int .u8)) {ok : Nat → Prop} (hfresh : ok W.heap.size) (hm : s.size ≤ 9223372036854775807) (HB : Below base w0 W) (hbase : base ≤ W.heap.size)
    (h : ∀ v1 w1, B (Kd.int .u8) e w1 base ok v1 (bytesOf s) → Below base w0 w1 → W.grownBy w1 none → (∃ b, v1.ownBlock = some b ∧ W.heap.size ≤ b) → wpList P ops Q rest (a.put o.dst v1) w1) : wpList P ops Q (o :: rest) a W := by
  have hc := Lib.run_convert_string_bytes W src t e s hs ht he
  generalize hW : Lib.bytesWorld W e s = W1 at hc
  have hrun : (execOp a.eval o).run P W = .ok (.value (.slice (some ⟨W.heap.size, 0, none⟩) s.size (grownCap W s.size 0 e))) W1 := by
    simp [execOp, ho, hx, hc]
  subst hW
  have hg : W.grownBy (Lib.bytesWorld W e s) none := ⟨rfl, rfl, rfl, by rw [Lib.bytesWorld_size]; omega, fun k hk _ => Lib.bytesWorld_at_old W e s k hk⟩
  refine event_run hgd hrun (h _ _ ⟨W.heap.size, _, _, _, by rw [bytesOf_length], by rw [bytesOf_length]; exact grownCap_ge _ _ _ _, hbase, hfresh, Lib.bytesWorld_at_new W e s, by rw [bytesOf_length]; show s.size ≤ (Lib.bytesCells W e s).size; simp [Lib.bytesCells], fun V hV => ?_⟩ (HB.grown hg hbase (by simp)) hg ⟨W.heap.size, by simp [Value.ownBlock], Nat.le_refl _⟩)
  refine ⟨rfl, by rw [bytesOf_length]; exact hm, fun _ => ⟨_, rfl, fun j p hj => ⟨[.int .u8 p], rfl, rfl, fun i u hu => ?_⟩⟩⟩
  have hi : i = 0 := by
    rcases i with _ | i
    · rfl
    · simp at hu
  subst hi
  have hu' : Value.int .u8 p = u := by simpa using hu
  subst hu'
  have hjl : j < s.size := by
    have := (List.getElem?_eq_some_iff.1 hj).1
    rwa [bytesOf_length] at this
  have hcell := Lib.bytesWorld_cell W e s j hjl
  have hp : p = ((s.data.toList.getD j 0).toNat : Int) := by
    have h2 : (bytesOf s)[j]? = some ((s.data.toList.getD j 0).toNat : Int) := by
      have hl : j < s.data.size := hjl
      simp [bytesOf, List.getD_eq_getElem?_getD, Array.getElem?_eq_getElem hl]
    exact Option.some.inj (hj.symm.trans h2)
  rw [hp, show (Kd.int .u8).sz = 1 from rfl, Nat.mul_one, Nat.add_zero]
  have hadd : (⟨W.heap.size, 0, none⟩ : Addr).add j = ⟨W.heap.size, j, none⟩ := by unfold Addr.add; split <;> simp_all
  rw [hadd]
  unfold World.cell? at hcell ⊢
  simp only [Lib.bytesWorld_at_new] at hcell
  simp only [hV]
  exact hcell
end
end Kd
section
variable {P : Program}
end
end Go.Proofs.YtjhodohmifemiaaW.PrintWords
namespace Go.Proofs.YtjhodohmifemiaaW.PrintWords
open Go.RowKit Go.Proofs.YtjhodohmifemiaaW.PrintLast
section
variable {P : Program}
end
end Go.Proofs.YtjhodohmifemiaaW.PrintWords
namespace Go.Proofs.YtjhodohmifemiaaW.PrintWords
open Go.RowKit Go.Proofs.YtjhodohmifemiaaW.PrintLast
theorem pf_ {P Q : Prop} (h : P) (c : P → Q := by intro h_; repeat (first | (with_reducible exact h_) | (with_reducible first | refine blk_drewN ?_ _ | refine blk_drew ?_ | refine blk_alloc ?_ _) | refine blk_far ?_ (Aside0.out (by assumption)) _)) : Q := c h
section
variable {P : Program} {ops : Array Oper} {Q : Exit → Act → World → Prop}
theorem gO_ {oi : Oper} {N : Option Tmp} {a : Act} {w : World} {K : Act → World → Prop} {f : FuncId} {fn : Func} {as : Array Operand} {ts : Array TypeId} (hf : P.funcs[f]? = some fn) (args : Array Value)
    (h : Calls P f args w fun e w' => ∃ v, e = .returned v ∧ K (a.put N v) w') (hname : (fn.name == "runtime.NumGoroutine") = false := by kernel_rfl) (hb : fn.body.isSome = true := by rfl)
    (hw : Region.wanted oi (yielded ops a.tmps) = true := by rfl) (hN : oi.dst = N := by rfl) (hop : oi.op = .call { callee := .value (.func f), args := as, argTypes := ts } := by rfl) (hargs : as.map a.eval = args := by (try simp only [List.map_toArray, List.map_cons, List.map_nil]); first | done | rfl | (simp only [List.length_drop, List.length_take]; rfl)) :
    if Region.wanted oi (yielded ops a.tmps) = true then Oper.wp P oi a w K Q else K (a.put N undef) w := goes_ hf hname hb args hw hN hop hargs h
theorem gL_ {rest : List Oper} {oi : Oper} {a : Act} {w : World} (N : Option Tmp) {f : FuncId} {fn : Func} {as : Array Operand} {ts : Array TypeId} (hf : P.funcs[f]? = some fn) (args : Array Value)
    (h : Calls P f args w fun e w' => ∃ v, e = .returned v ∧ wpList P ops Q rest (a.put N v) w') (hd : oi.dst = N := by rfl) (hg : oi.guard = none := by rfl) (hname : (fn.name == "runtime.NumGoroutine") = false := by kernel_rfl) (hb : fn.body.isSome = true := by rfl)
    (hop : oi.op = .call { callee := .value (.func f), args := as, argTypes := ts } := by rfl) (hargs : as.map a.eval = args := by (try simp only [List.map_toArray, List.map_cons, List.map_nil]); first | done | rfl | (simp only [List.length_drop, List.length_take]; rfl)) :
    wpList P ops Q (oi :: rest) a w := goesL_ N hd hg hf hname hb args hop hargs h
end
end Go.Proofs.YtjhodohmifemiaaW.PrintWords
namespace Go.Proofs.YtjhodohmifemiaaW.PrintLast
open Go.RowKit Go.Proofs.YtjhodohmifemiaaW.PrintWords
section
variable {P : Program} {ops : Array Oper} {Q : Exit → Act → World → Prop} {md : Region.Mode} {S : World → Prop} {ds : List Nat} {T : Bool × List (List Nat × List Nat)}
theorem pU_ {oi : Oper} {fuel : Nat} {l : Array Bool} {a a' : Act} {w : World} (i : Nat) (n : Tmp) (l' : Array Bool) (HT : Aside0 (rtab md ops = T)) (h : wpAnyLast P md ops Q S ds fuel l' a' w)
    (hi : ops[i]? = some oi := by rfl) (hN : oi.dst = some n := by rfl) (hc : anyT T l.toList l'.toList i = true := by kernel_rfl) (hQ : ∀ c a w, Q (.panic c) (a.put oi.dst undef) w → Q (.panic c) a w := by exact fun _ _ _ h => h)
    (hw : Region.wanted oi (yielded ops a.tmps) = false := by rfl) (ha : a.put (some n) undef = a' := by simp only [Act.put, List.setIfInBounds_toArray, List.set_cons_zero, List.set_cons_succ, i64_w, i32_w]; rfl) : wpAnyLast P md ops Q S ds (fuel + 1) l a w :=
  pure_ l' hi hN (any_of HT.out hc) hQ (Or.inr ⟨hw, rfl⟩) ha h
theorem pV_ {oi : Oper} {v : Value} {fuel : Nat} {l : Array Bool} {a a' : Act} {w : World} (i : Nat) (n : Tmp) (l' : Array Bool) (HT : Aside0 (rtab md ops = T)) (h : wpAnyLast P md ops Q S ds fuel l' a' w)
    (hi : ops[i]? = some oi := by rfl) (hN : oi.dst = some n := by rfl) (hc : anyT T l.toList l'.toList i = true := by kernel_rfl) (hw : Region.wanted oi (yielded ops a.tmps) = true := by rfl)
    (hy : ∀ w', (execOp a.eval oi).run P w' = .ok (.value v) w' := by intro w'; go_simp; (with_reducible rfl)) (hQ : ∀ c a w, Q (.panic c) (a.put oi.dst v) w → Q (.panic c) a w := by exact fun _ _ _ h => h)
    (ha : a.put (some n) v = a' := by simp only [Act.put, List.setIfInBounds_toArray, List.set_cons_zero, List.set_cons_succ, i64_w, i32_w]; rfl) : wpAnyLast P md ops Q S ds (fuel + 1) l a w :=
  pure_ l' hi hN (any_of HT.out hc) hQ (Or.inl ⟨hw, hy⟩) ha h
theorem tV_ {B : List Nat} {oi : Oper} {v : Value} {fuel : Nat} {l : Array Bool} {a a' : Act} {w : World} (i : Nat) (n : Tmp) (l' : Array Bool) (HT : Aside0 (rtab md ops = T)) (HW : Aside0 (waitsOk T.2 B = true)) (hS : S w) (hi : ops[i]? = some oi)
    (hy : ∀ w', S w' → (execOp a.eval oi).run P w' = .ok (.value v) w') (h : wpAnyLast P md ops Q S ds fuel l' a' w)
    (hN : oi.dst = some n := by rfl) (hc : takeW T B ds l.toList l'.toList i = true := by kernel_rfl) (hw : Region.wanted oi (yielded ops a.tmps) = true := by rfl) (hQ : ∀ c a w, Q (.panic c) (a.put oi.dst v) w → Q (.panic c) a w := by exact fun _ _ _ h => h)
    (ha : a.put (some n) v = a' := by simp only [Act.put, List.setIfInBounds_toArray, List.set_cons_zero, List.set_cons_succ, i64_w, i32_w]; rfl) : wpAnyLast P md ops Q S ds (fuel + 1) l a w :=
  take_ l' hi hN (take_ofW HT.out HW.out hc) hQ (Or.inl ⟨hw, hy⟩) hS ha h
end
end Go.Proofs.YtjhodohmifemiaaW.PrintLast

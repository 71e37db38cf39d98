/- Words for the walk and for the pure half, as far as this claim comes to them. -/
import Derived.Test.YtbmffanhebjlgaaVFnTurnedWLast
import Derived.Test.YtbmffanhebjlgaaVFnTurnedWMore
namespace Go.Proofs.YtbmffanhebjlgaaW.PrintWords
open Go.RowKit Go.Proofs.YtbmffanhebjlgaaW.PrintLast
section
variable {P : Program} {ops : Array Oper} {o : Oper} {rest : List Oper} {a : Act} {W : World} {Q : Exit → Act → World → Prop}
theorem gate_value {t : Tmp} {as : Array Operand} {ts : Array TypeId} (_ho : o.op = .call { callee := .value (.tmp t), args := as, argTypes := ts }) (h : wpList P ops Q (o :: rest) a W) : wpList P ops Q (o :: rest) a W := h
theorem goesW_ {oi : Oper} {N : Option Tmp} {a : Act} {w : World} {K : Act → World → Prop} {f : FuncId} {fn : Func} {g : Operand} {as : Array Operand} {ts : Array TypeId} {cap : Array Value} (hf : P.funcs[f]? = some fn) (hname : (fn.name == "runtime.NumGoroutine") = false) (hb : fn.body.isSome = true) (args : Array Value)
    (hw : Region.wanted oi (yielded ops a.tmps) = true) (hN : oi.dst = N) (hop : oi.op = .call { callee := .value g, args := as, argTypes := ts }) (hfv : a.eval g = .func (.func f) #[] cap) (hargs : as.map a.eval ++ cap = args)
    (h : Calls P f args w fun e w' => ∃ v, e = .returned v ∧ K (a.put N v) w') : if Region.wanted oi (yielded ops a.tmps) = true then Oper.wp P oi a w K Q else K (a.put N undef) w := by
  refine call_ f args hw hN ?_ h
  have he := enters_ hf hname hb args w
  unfold execOp
  simp [hop, resolve, Deferred.ofValue, invoke, hfv, hargs, he]
theorem goesV_ {oi : Oper} {a : Act} {w : World} (N : Option Tmp) (hd : oi.dst = N) (hg : oi.guard = none) {f : FuncId} {fn : Func} {g : Operand} {as : Array Operand} {ts : Array TypeId} {cap : Array Value} (hf : P.funcs[f]? = some fn) (hname : (fn.name == "runtime.NumGoroutine") = false) (hb : fn.body.isSome = true) (args : Array Value)
    (hop : oi.op = .call { callee := .value g, args := as, argTypes := ts }) (hfv : a.eval g = .func (.func f) #[] cap) (hargs : as.map a.eval ++ cap = args)
    (h : Calls P f args w fun e w' => ∃ v, e = .returned v ∧ wpList P ops Q rest (a.put N v) w') : wpList P ops Q (oi :: rest) a w := by
  refine wpList_plain hg fun K hK => ?_
  have he := enters_ hf hname hb args w
  have hrun : (execOp a.eval oi).run P w = .ok (.enter f args) w := by
    unfold execOp
    simp [hop, resolve, Deferred.ofValue, invoke, hfv, hargs, he]
  unfold Oper.wp
  rw [hrun, Oper.upon_enter]
  refine h.mono fun e w'' hh => ?_
  obtain ⟨v, rfl, hk⟩ := hh
  subst hd
  exact hK _ _ hk
end
end Go.Proofs.YtbmffanhebjlgaaW.PrintWords
namespace Go.Proofs.YtbmffanhebjlgaaW.PrintWords
def bmL : Nat → Nat → List Bool
  | 0, _ => []
  | n + 1, x => (x % 2 == 1) :: bmL n (x / 2)
abbrev bm_ (n x : Nat) : Array Bool := ⟨bmL n x⟩
end Go.Proofs.YtbmffanhebjlgaaW.PrintWords
namespace Go.Proofs.YtbmffanhebjlgaaW.PrintWords
open Go.RowKit Go.Proofs.YtbmffanhebjlgaaW.PrintLast
theorem pk_ {P Q : Prop} (h : P) (c : P → Q := by intro h_; (with_reducible repeat (first | refine blk_drewN ?_ _ | refine blk_drew ?_ | refine blk_alloc ?_ _)); exact h_) : Q := c h
theorem rk_ {P Q : Prop} (h : P) (c : P → Q := by intro h_; (with_reducible repeat (first | apply Kd.R_alloc | apply Kd.R_drewN | apply Kd.R_drew)); exact h_) : Q := c h
theorem bk_ {P Q : Prop} (h : P) (c : P → Q := by intro h_; repeat (first | (with_reducible first | exact h_ | apply below_alloc | apply pw_below_drewN | apply below_drew1 | refine below_set ?_ (Aside0.out (by assumption))) | exact h_)) : Q := c h
theorem ck_ {P Q : Prop} (h : P) (c : P → Q := by intro h_; repeat (first | exact h_ | (with_reducible refine Kd.C_alloc ?_ _) | (with_reducible refine Kd.C_drewN ?_ _) | (with_reducible refine Kd.C_drew ?_))) : Q := c h
theorem bc_ {w : World} {g : Nat} {t : TypeId} {cs : Array Value} (h : w.heap[g]? = some (.cells cs t (0, 0))) (i : Nat) (v : Value) (e : cs[i]? = some v := by rfl) : w.cell? ⟨g, i, none⟩ = some v := (blk_cell h i).trans e
end Go.Proofs.YtbmffanhebjlgaaW.PrintWords
namespace Go.Proofs.YtbmffanhebjlgaaW.PrintWords
open Go.RowKit Go.Proofs.YtbmffanhebjlgaaW.PrintLast
theorem bb_ {W W' W'' : World} {g : Nat} {o : Obj} (h : W''.heap[g]? = some o) (hb : Below W.heap.size W W') (c : W''.heap[g]? = some o → W.heap[g]? = some o := by intro h_; (with_reducible repeat (first | refine blk_drewN ?_ _ | refine blk_drew ?_ | refine blk_alloc ?_ _)); exact h_) : W'.heap[g]? = some o := blk_below (c h) hb
theorem bg_ {W W' W'' : World} {g : Nat} {o : Obj} {row : Option Nat} (h : W''.heap[g]? = some o) (hg : W.grownBy W' row) (hne : some g ≠ row) (c : W''.heap[g]? = some o → W.heap[g]? = some o := by intro h_; (with_reducible repeat (first | refine blk_drewN ?_ _ | refine blk_drew ?_ | refine blk_alloc ?_ _)); exact h_) : W'.heap[g]? = some o := blk_grown (c h) hg hne
theorem bl_ {W W'' : World} {g : Nat} {o : Obj} (h : W''.heap[g]? = some o) (c : W''.heap[g]? = some o → W.heap[g]? = some o := by intro h_; (with_reducible repeat (first | refine blk_drewN ?_ _ | refine blk_drew ?_ | refine blk_alloc ?_ _)); exact h_) : g < W.heap.size := blk_lt (c h)
theorem be_ {W W'' : World} {g : Nat} {t : TypeId} {cs : Array Value} (h : W''.heap[g]? = some (.cells cs t (0, 0))) (i : Nat) {v : Value} (c : W''.heap[g]? = some (.cells cs t (0, 0)) → W.heap[g]? = some (.cells cs t (0, 0)) := by intro h_; (with_reducible repeat (first | refine blk_drewN ?_ _ | refine blk_drew ?_ | refine blk_alloc ?_ _)); exact h_) (e : cs[i]? = some v := by rfl) : W.cell? ⟨g, i, none⟩ = some v := (blk_cell (c h) i).trans e
end Go.Proofs.YtbmffanhebjlgaaW.PrintWords
namespace Go.Proofs.YtbmffanhebjlgaaW.PrintWords
theorem rx_ {α : Type} {d : Kd α} {e t : Nat} {W W' : World} {base g : Nat} {ok : Nat → Prop} {v : Value} {xs : List α} {cs : Array Value} (h : d.R e W base ok v xs) (hb : W.heap[g]? = some (.cells cs t (0, 0))) (ht : ∀ q, q ∈ e :: d.E → q ≠ t := by decide) (c : d.R e W base (fun k => ok k ∧ k ≠ g) v xs → d.R e W' base (fun k => ok k ∧ k ≠ g) v xs := by intro h_; repeat (first | (with_reducible exact h_) | (with_reducible refine Kd.R_far ?_ (fun _ hk_ => hk_.2) _) | (with_reducible first | apply Kd.R_alloc | apply Kd.R_drewN | apply Kd.R_drew))) : d.R e W' base ok v xs := Kd.R_mono (c (Kd.R_types h hb ht)) (fun _ hk_ => hk_.1)
end Go.Proofs.YtbmffanhebjlgaaW.PrintWords

/- Words for the walk and for the pure half, as far as this claim comes to them. -/
import Derived.Test.YtjhodohmifemiaaVFnExactRecoverAllBytes
import Derived.ArgAppend
namespace Go.Proofs.YtjhodohmifemiaaW.PrintWords
open Go.RowKit Go.Proofs.YtjhodohmifemiaaW.PrintLast
namespace Kd
section
variable {P : Program} {ops : Array Oper} {rest : List Oper} {o o2 : Oper} {a : Act} {Q : Exit → Act → World → Prop}
theorem mark_run (W : World) (t e : TypeId) (cs : Array Value) (ht : P.underlying t = some (.slice e)) (he : P.underlying e = some (.int .u8)) (n : Nat) :
    (convert t t (.slice (some ⟨W.heap.size, 0, none⟩) n n)).run P (W.alloc (.cells cs e)) = .ok (.slice (some ⟨W.heap.size, 0, none⟩) n n) ((W.alloc (.cells cs e)).freeze ⟨W.heap.size, cs.size, none⟩ 1) := by
  have hsh : (W.alloc (.cells cs e)).shape? W.heap.size = some (e, cs.size) := by
    simp [World.shape?, World.alloc, -World.alloc_eq]
  simp [convert, run_underlying ht, run_underlying he, markStringish, hsh, Result.andThen]
theorem mark_old (W : World) (e : TypeId) (cs : Array Value) (k : Nat) (hk : k < W.heap.size) : ((W.alloc (.cells cs e)).freeze ⟨W.heap.size, cs.size, none⟩ 1).heap[k]? = W.heap[k]? := by
  have h1 : W.heap.size ≠ k := by omega
  simp [World.freeze, World.alloc, -World.alloc_eq, Array.getElem?_modify, Array.getElem?_push, h1, Ne.symm h1]
theorem mark_new (W : World) (e : TypeId) (cs : Array Value) : ((W.alloc (.cells cs e)).freeze ⟨W.heap.size, cs.size, none⟩ 1).heap[W.heap.size]? = some (.cells cs e (cs.size, cs.size + 1)) := by
  simp [World.freeze, World.alloc, -World.alloc_eq]
  rw [Array.getElem_modify_self]
  simp
theorem mark_size (W : World) (e : TypeId) (cs : Array Value) : ((W.alloc (.cells cs e)).freeze ⟨W.heap.size, cs.size, none⟩ 1).heap.size = W.heap.size + 1 := by
  simp [World.freeze, World.alloc, -World.alloc_eq]
theorem B_after {d : Kd Int} {e base : Nat} {ok : Nat → Prop} {W w1 : World} {u v v1 : Value} {xs : List Int} (h : B d e W base (fun k => ok k ∧ some k ≠ v.ownBlock) u xs) (hg : W.grownBy w1 v.ownBlock) (hat : v1.ownBlock = v.ownBlock ∨ ∃ b, v1.ownBlock = some b ∧ W.heap.size ≤ b) : B d e w1 base (fun k => ok k ∧ some k ≠ v1.ownBlock) u xs := by
  refine B_mono (B_grown (B_bound h) hg (fun k hk => hk.1.2)) (fun k hk => ⟨hk.1.1, ?_⟩)
  rcases hat with hat | ⟨b, hb, hle⟩
  · rw [hat]; exact hk.1.2
  · rw [hb]
    intro he
    injection he with he
    have := hk.2.2.1
    omega
theorem B_litconv {w0 W : World} (base e : Nat) (hgd : o.guard = none) (hgd2 : o2.guard = none) {N N2 : Tmp} (hd : o.dst = some N) (hd2 : o2.dst = some N2) (t : TypeId) (ho2 : o2.op = .convert t t (.tmp N)) (ht : P.underlying t = some (.slice e)) (he : P.underlying e = some (.int .u8))
    (xs : List Int) (hrun : (execOp a.eval o).run P W = .ok (.value (.slice (some ⟨W.heap.size, 0, none⟩) xs.length xs.length)) (W.alloc (.cells (xs.map (Value.int .u8)).toArray e)))
    (hev : ∀ v, (a.put (some N) v).eval (.tmp N) = v) {ok : Nat → Prop} (hfresh : ok W.heap.size) (HB : Below base w0 W) (hbase : base ≤ W.heap.size) (hm : xs.length ≤ 9223372036854775807)
    (h : ∀ v1 w1, B (Kd.int .u8) e w1 base ok v1 xs → Below base w0 w1 → W.grownBy w1 none → (∃ b, v1.ownBlock = some b ∧ W.heap.size ≤ b) → (∃ A, v1 = .slice (some A) xs.length xs.length) → wpList P ops Q rest ((a.put (some N) v1).put (some N2) v1) w1) : wpList P ops Q (o :: o2 :: rest) a W := by
  refine event_run hgd hrun ?_
  rw [hd]
  have hc := mark_run (P := P) W t e (xs.map (Value.int .u8)).toArray ht he xs.length
  generalize hW : ((W.alloc (.cells (xs.map (Value.int .u8)).toArray e)).freeze ⟨W.heap.size, (xs.map (Value.int .u8)).toArray.size, none⟩ 1) = W1 at hc
  have hrun2 : (execOp (a.put (some N) (.slice (some ⟨W.heap.size, 0, none⟩) xs.length xs.length)).eval o2).run P (W.alloc (.cells (xs.map (Value.int .u8)).toArray e)) = .ok (.value (.slice (some ⟨W.heap.size, 0, none⟩) xs.length xs.length)) W1 := by
    simp [execOp, ho2, hev, hc]
  have hg : W.grownBy W1 none := by
    subst hW
    exact ⟨rfl, rfl, rfl, by rw [mark_size]; omega, fun k hk _ => mark_old W e _ k hk⟩
  have hnew := mark_new W e (xs.map (Value.int .u8)).toArray
  rw [hW] at hnew
  refine event_run hgd2 hrun2 ?_
  rw [hd2]
  refine h _ _ ⟨W.heap.size, _, _, _, rfl, Nat.le_refl _, hbase, hfresh, hnew, by show xs.length ≤ (xs.map (Value.int .u8)).toArray.size; simp, fun V hV => ?_⟩ (HB.grown hg hbase (by simp)) hg ⟨W.heap.size, by simp [Value.ownBlock], Nat.le_refl _⟩ ⟨_, rfl⟩
  refine ⟨rfl, hm, fun _ => ⟨_, rfl, fun j p hj => ⟨[.int .u8 p], rfl, rfl, fun i u hu => ?_⟩⟩⟩
  have hi : i = 0 := by
    rcases i with _ | i
    · rfl
    · simp at hu
  subst hi
  have hu' : Value.int .u8 p = u := by simpa using hu
  subst hu'
  have hjl := (List.getElem?_eq_some_iff.1 hj).1
  rw [show (Kd.int .u8).sz = 1 from rfl, Nat.mul_one, Nat.add_zero]
  have hadd : (⟨W.heap.size, 0, none⟩ : Addr).add j = ⟨W.heap.size, j, none⟩ := by unfold Addr.add; split <;> simp_all
  rw [hadd]
  unfold World.cell?
  simp only [hV]
  simp [hj]
theorem B_append (_d : Kd Int) {w0 W : World} (base : Nat) (hgd : o.guard = none) (s x : Operand) (t e : TypeId) (z : Value) (bytes : Nat)
    (ho : o.op = .call { callee := .builtin .append, args := #[s, x], argTypes := #[t, t] })
    (ht : P.underlying t = some (.slice e)) (hinfo : (P.info? e).map (fun i => (i.zero, i.size, i.bytes)) = some (some z, (Kd.int .u8).sz, bytes)) (hz : z.cells.size = (Kd.int .u8).sz) (hs0 : 0 < (Kd.int .u8).sz) (hb0 : 0 < bytes)
    (v : Value) (xs : List Int) (p : Int) (cs : List Value) (ok okp : Nat → Prop) (hs : a.eval s = v) (hx : a.eval x = .slice (some ⟨W.heap.size, 0, none⟩) 1 1) (hp : (Kd.int .u8).M W base okp p cs) (hokp : ∀ k, okp k → ok k ∧ some k ≠ v.ownBlock) (hfresh : ∀ k, W.heap.size ≤ k → ok k)
    (HO : B (Kd.int .u8) e W base ok v xs) (HB : Below base w0 W) (hbase : base ≤ W.heap.size) (hl : (xs.length + 1) * bytes ≤ 140737488355328) (hful : ∃ A, v = .slice (some A) xs.length xs.length)
    (h : ∀ v1 w1, (Kd.int .u8).R e w1 base ok v1 (xs ++ [p]) → Below base w0 w1 → W.grownBy w1 v.ownBlock → (v1.ownBlock = v.ownBlock ∨ ∃ b, v1.ownBlock = some b ∧ W.heap.size ≤ b) → wpList P ops Q rest (a.put o.dst v1) w1) :
    wpList P ops Q (o :: rest) a (W.alloc (.cells cs.toArray e)) := by
  obtain ⟨i0, hi, hzz⟩ := Option.map_eq_some_iff.1 hinfo
  simp only [Prod.mk.injEq] at hzz
  obtain ⟨hz0, hz1, hz2⟩ := hzz
  obtain ⟨A, rfl⟩ := hful
  have hlen : xs.length + 1 ≤ 140737488355328 := Nat.le_trans (Nat.le_mul_of_pos_right _ hb0) hl
  have hC := (B_reads' (B_alloc HO (.cells cs.toArray e))).2.2
  obtain ⟨olds, holds, hcells⟩ := ReadsRow.inner_ hC
  have hcl : cs.length = 1 := (Kd.int .u8).K_len ((Kd.int .u8).K_of_M hp)
  obtain ⟨v1, w1, hrun, hown, hg⟩ := run_append_arg_grows (P := P) (w := W.alloc (.cells cs.toArray e)) t o.type e i0 z (Kd.int .u8).sz bytes ht hi hz0 hz1 hz2 hz hs0 A xs.length xs.length olds holds.1 hcells ⟨W.heap.size, 0, none⟩ 1 1 cs (by rw [hcl]; rfl)
    (by simpa using World.news_of_block (cs := cs.toArray) (t := e) (fr := (0, 0)) (heap_alloc_new W (.cells cs.toArray e))) (by omega) (by simp only [maxLen]; omega) hl
  have hsz : (W.alloc (.cells cs.toArray e)).heap.size = W.heap.size + 1 := by simp
  have hg' : W.grownBy w1 none := World.grownBy.trans (World.grownBy_alloc W _ _) hg
  have hown' : w1.ownsRow base e (Kd.int .u8).sz v1 (xs.length + 1) (olds ++ cs) := by
    refine ⟨hown.1, ?_⟩
    rcases hown.2 with ⟨_, hn⟩ | ⟨g, cap, cur, hv, hb, r⟩
    · omega
    · exact .inr ⟨g, cap, cur, hv, by omega, r⟩
  have hat : ∃ b, v1.ownBlock = some b ∧ W.heap.size ≤ b := by
    rcases hown.2 with ⟨_, hn⟩ | ⟨g, cap, cur, rfl, hb, r⟩
    · omega
    · exact ⟨g, by simp [Value.ownBlock], by omega⟩
  refine wpList_plain hgd fun K hK => ?_
  unfold Oper.wp execOp
  simp only [ho, resolve, invoke, builtin, Sem.run_bind, Sem.run_pure, Result.andThen_ok, List.map_toArray, List.map_cons, List.map_nil, hs, hx, hrun]
  refine hK _ _ (h v1 w1 ⟨fun k hk => ?_, olds ++ cs, by rw [List.length_append]; exact hown', ?_⟩ (HB.grown hg' hbase (by simp)) ⟨hg'.os, hg'.tape, hg'.output, hg'.size, fun k hk _ => hg'.block k hk (by simp)⟩ (.inr hat))
  · obtain ⟨b, hb, hle⟩ := hat
    rw [hb] at hk
    injection hk with hk
    exact hfresh k (by omega)
  · refine reps_append (holds.imp_ (fun q c hq => hq)) ⟨by rw [hcl]; rfl, fun j q hj => ?_⟩
    have hj0 : j = 0 := by
      have := (List.getElem?_eq_some_iff.1 hj).1
      simp at this
      omega
    subst hj0
    have hq : p = q := by simpa using hj
    subst hq
    have : (cs.drop (0 * (Kd.int .u8).sz)).take (Kd.int .u8).sz = cs := by
      rw [Nat.zero_mul, List.drop_zero, List.take_of_length_le (by rw [hcl]; exact Nat.le_refl _)]
    rw [this]
    exact hp
end
end Kd
end Go.Proofs.YtjhodohmifemiaaW.PrintWords

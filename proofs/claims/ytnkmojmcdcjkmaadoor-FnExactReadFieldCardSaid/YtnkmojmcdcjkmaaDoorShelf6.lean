/- What ReadDecimal's walk asks of the world: MaxAt (NAMEShelf3), and that strconv's two error variables hold an interface; whence a row has it. -/
import Derived.Test.YtnkmojmcdcjkmaaDoorShelf5
import Derived.LaidLaws
namespace Go.Proofs.YtnkmojmcdcjkmaaDoor
open Go.RowKit
def ErrAt (w : World) : Prop := (∃ tp p, w.var? Tryd.prog "strconv.ErrRange" = some #[.iface tp p]) ∧ ∃ tp p, w.var? Tryd.prog "strconv.ErrSyntax" = some #[.iface tp p]
def MaxAtE (w : World) : Prop := MaxAt w ∧ ErrAt w
theorem var_stays {name : String} {g : Nat} {cs : Array Value} {w w' : World} (hg : Tryd.prog.globalNamed name = some g) (h : w.var? Tryd.prog name = some cs) (hb : Below w.heap.size w w') : w'.var? Tryd.prog name = some cs := by
  have key : w'.var? Tryd.prog name = w.var? Tryd.prog name := by
    unfold World.var? at h ⊢
    simp only [hg, Option.bind_some] at h ⊢
    have hlt : g < w.heap.size := by
      apply Nat.lt_of_not_le
      intro hge
      rw [Array.getElem?_eq_none hge] at h
      cases h
    rw [hb.block g hlt]
  exact key.trans h
theorem MaxAtE.below {w w' : World} (h : MaxAtE w) (b : Below w.heap.size w w') : MaxAtE w' := by
  obtain ⟨h1, ⟨t1, p1, h2⟩, t2, p2, h3⟩ := h
  exact ⟨h1.below b, ⟨t1, p1, var_stays (g := 5) (by kernel_rfl) h2 b⟩, t2, p2, var_stays (g := 4) (by kernel_rfl) h3 b⟩
theorem ErrAt.of_laid {a b c e : String} {da db dc de dp : DataW Unit} {z : String} {n1 n2 : String} {d1 d2 : DataW Unit} {W : World} (h : laidMet Tryd.prog [(a, da), (b, db), (z, dp), (c, dc), ("strconv.ErrRange", .iface n1 d1), ("strconv.ErrSyntax", .iface n2 d2), (e, de)] W) : ErrAt W := by
  obtain ⟨ps, h, _⟩ := h
  obtain ⟨_, _, _, _, _, _, _, _, _, _, h, _⟩ := h
  obtain ⟨_, _, _, _, _, _, _, _, _, _, h, _⟩ := h
  obtain ⟨_, _, _, _, _, _, _, _, _, _, h, _⟩ := h
  obtain ⟨_, _, _, _, _, _, _, _, _, _, h, _⟩ := h
  obtain ⟨g', t', cs, fuel, p, q, hg', ht', hvar, hd, h, _⟩ := h
  obtain ⟨g2, t2, cs2, fuel2, p2, q2, hg2, ht2, hvar2, hd2, _, _⟩ := h
  obtain rfl := Option.some.inj ((show Tryd.prog.globalNamed "strconv.ErrRange" = some 5 by kernel_rfl).symm.trans hg')
  obtain rfl := Option.some.inj ((show (Tryd.prog.globals[5]?).map (·.type) = some 64 by kernel_rfl).symm.trans ht')
  obtain rfl := Option.some.inj ((show Tryd.prog.globalNamed "strconv.ErrSyntax" = some 4 by kernel_rfl).symm.trans hg2)
  obtain rfl := Option.some.inj ((show (Tryd.prog.globals[4]?).map (·.type) = some 64 by kernel_rfl).symm.trans ht2)
  obtain ⟨_, u, v, hcs, _, _⟩ := iface_of_trod Tryd.underlying64 hd
  obtain ⟨_, u2, v2, hcs2, _, _⟩ := iface_of_trod Tryd.underlying64 hd2
  refine ⟨⟨u, v, ?_⟩, u2, v2, ?_⟩
  · exact hvar.trans (congrArg some (Array.toList_inj.1 hcs))
  · exact hvar2.trans (congrArg some (Array.toList_inj.1 hcs2))
end Go.Proofs.YtnkmojmcdcjkmaaDoor

/- Words for the walk and for the pure half, as far as this claim comes to them. -/
import Derived.Test.YtmepkamfchfoiaaVFnExactBreedOnceWWords
import Derived.Deep.Slices
import Derived.SizedLaws
import Derived.ChangeArms
import Derived.DataReads
namespace Go.Proofs.Ytmepkamfchfoiaa.O
open Go.RowKit Go.Proofs.YtmepkamfchfoiaaW.PrintWords
set_option linter.unusedVariables false
def Opens {α : Type} (P : Program) (t : TypeId) (d : Kd α) (G : α → Prop) : Prop :=
  ∀ {H : Type} (enc : TypeId × Value → H) (W : World) (base : Nat) (spare : Nat → Bool) (held : Bool) (fuel : Nat) (cs : List Value) (x : DataW H × List MemPlace),
    DataW.trod enc P W base spare held fuel t cs = some x → (∀ n ∈ x.1.weights P t, n ≤ reachBytes) → ∃ a : α, d.K W a cs ∧ G a
theorem opens_int {P : Program} {t : TypeId} {k : IntKind} (ht : P.underlying t = some (.int k)) : Opens P t (Kd.int k) (fun n => (Lit.int k n).wf = true) := by
  intro H enc W base spare held fuel cs x h _
  obtain ⟨n, rfl, _, hw⟩ := DataW.trod_int ht h
  exact ⟨n, rfl, hw⟩
theorem weights_all {H : Type} {P : Program} {e : TypeId} {d : DataW H} : ∀ {l : List (DataW H)}, d ∈ l → ∀ n ∈ d.weights P e, n ∈ DataW.weightsAll P e l
  | [], h, _, _ => by cases h
  | x :: l, h, n, hn => by
    simp only [DataW.weightsAll, List.mem_append]
    rcases List.mem_cons.1 h with rfl | h
    · exact .inl hn
    · exact .inr (weights_all h n hn)
theorem opens_slice {α : Type} {P : Program} {t e : TypeId} {d : Kd α} {G : α → Prop} {B : Nat} (ht : P.underlying t = some (.slice e)) (hE : Opens P e d G) (hc : P.cellsOf e = d.sz) (hB : P.bytesOf e = B) :
    Opens P t (Kd.slice e d) (fun l => (∀ x ∈ l, G x) ∧ l.length * B ≤ 140737488351232 ∧ l.length ≤ 9223372036854775807) := by
  intro H enc W base spare held fuel cs x h hw
  rcases Go.Deep.open_slice ht h with ⟨rfl, rfl⟩ | ⟨a, len, cap, m, n, D, Pl, rfl, hb, hl, hm, hmm, hx, hi⟩
  · exact ⟨[], ⟨none, 0, rfl, Nat.le_refl _, Kd.C_nil _ _⟩, by simp, by simp, by simp⟩
  · subst hx
    have hlm : len ≤ m := by rw [hmm]; split <;> omega
    have hel : ∀ i : Fin len, ∃ x : α, (∃ cs', W.cells? base (a.add (i.1 * P.cellsOf e)) (P.cellsOf e) = some cs' ∧ d.K W x cs') ∧ G x := by
      intro i
      obtain ⟨cs', hcs, htr⟩ := hi i.1 (by omega)
      obtain ⟨x, hk, hg⟩ := hE enc W base spare held n cs' _ htr (fun z hz => hw z (by
        rw [DataW.weights, ht]
        refine List.mem_cons_of_mem _ (List.mem_append_left _ (weights_all (d := D i.1) ?_ z hz))
        exact List.mem_map.2 ⟨i.1, List.mem_range.2 i.2, rfl⟩))
      exact ⟨x, ⟨cs', hcs, hk⟩, hg⟩
    have hf : ∃ f : Fin len → α, ∀ i, (∃ cs', W.cells? base (a.add (i.1 * P.cellsOf e)) (P.cellsOf e) = some cs' ∧ d.K W (f i) cs') ∧ G (f i) := ⟨fun i => Classical.choose (hel i), fun i => Classical.choose_spec (hel i)⟩
    obtain ⟨f, hf⟩ := hf
    have hlen : (List.ofFn f).length = len := List.length_ofFn
    have hmax : len ≤ 9223372036854775807 := by unfold maxLen at hm; omega
    refine ⟨List.ofFn f, ⟨some a, cap, by rw [hlen], by rw [hlen]; exact hl, ?_⟩, ?_, ?_, by rw [hlen]; exact hmax⟩
    · refine ⟨rfl, by rw [hlen]; exact hmax, fun _ => ⟨a, rfl, fun j p hj => ?_⟩⟩
      have hjl : j < len := by rw [← hlen]; exact (List.getElem?_eq_some_iff.1 hj).1
      have hp : p = f ⟨j, hjl⟩ := by
        rw [List.getElem?_eq_getElem (by rw [hlen]; exact hjl), List.getElem_ofFn] at hj
        exact (Option.some.inj hj).symm
      subst hp
      obtain ⟨⟨cs', hcs, hk⟩, _⟩ := hf ⟨j, hjl⟩
      obtain ⟨_, hcl, hat⟩ := World.cells?_some hcs
      refine ⟨cs', hcl.trans hc, hk, fun i u hu => ?_⟩
      have hil : i < P.cellsOf e := by rw [← hcl]; exact (List.getElem?_eq_some_iff.1 hu).1
      have := hat i hil
      rw [Go.Deep.add_add, hu, hc] at this
      exact this
    · intro x hx
      obtain ⟨i, rfl⟩ := (List.mem_ofFn (f := f) (a := x)).1 hx
      exact (hf i).2
    · have := hw ((((List.range len).map D).length + ((List.range (m - len)).map fun j => D (len + j)).length) * P.bytesOf e) (by rw [DataW.weights, ht]; exact List.mem_cons_self)
      rw [hB, List.length_map, List.length_map, List.length_range, List.length_range] at this
      have h2 : reachBytes = 140737488351232 := rfl
      have h3 : len * B ≤ (len + (m - len)) * B := Nat.mul_le_mul_right _ (by omega)
      rw [hlen]
      omega
theorem Opens.iso {α β : Type} {P : Program} {t : TypeId} {d : Kd α} {G : α → Prop} (h : Opens P t d G) (f : β → α) (g : α → β) (hfg : ∀ a, f (g a) = a) : Opens P t (Kd.iso d f) (fun b => G (f b)) := by
  intro H enc W base spare held fuel cs x hx hw
  obtain ⟨a, hk, hg⟩ := h enc W base spare held fuel cs x hx hw
  exact ⟨g a, by show d.K W (f (g a)) cs; rw [hfg]; exact hk, by show G (f (g a)); rw [hfg]; exact hg⟩
theorem weights_field {H : Type} {P : Program} {t : TypeId} {fs : Array Field} (hs : P.underlying t = some (.struct fs)) {parts : List (DataW H)} {j : Nat} {tj : TypeId} {dj : DataW H} (ht : (fs.toList.map (·.type))[j]? = some tj) (hd : parts[j]? = some dj) : ∀ n ∈ dj.weights P tj, n ∈ (DataW.agg parts).weights P t := by
  intro n hn
  rw [DataW.weights, hs]
  exact DataW.weights_mem_each ht hd n hn
end Go.Proofs.Ytmepkamfchfoiaa.O

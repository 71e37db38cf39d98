/- Words for the walk and for the pure half, as far as this claim comes to them. -/
import Derived.WalkKit
import Derived.Deep.LoopGhost
import Derived.Deep.DeepCutAuto
import Derived.Test.YtbmffanhebjlgaaVFnTurnedWLast
namespace Go.Proofs.YtbmffanhebjlgaaW.PrintWords
open Go Go.RowKit Go.Proofs.YtbmffanhebjlgaaW.PrintLast
theorem ee_ {α : Sort _} {a b : α} (h : a = b := by first | rfl | (simp; done) | (simp [i64_w, i32_w]; done) | (simp [*]; done) | (simp [*, i64_w, i32_w]; done)) : a = b := h
def fmg : List Nat → (Nat → Value) → Nat → List Value → List Value
  | _, _, _, [] => []
  | [], u, i, _ :: xs => u i :: fmg [] u (i + 1) xs
  | k :: ks, u, i, x :: xs => match Nat.beq k i with
    | true => x :: fmg ks u (i + 1) xs
    | false => u i :: fmg (k :: ks) u (i + 1) xs
def fml : List Nat → Nat → List Value → List Value → List Value
  | _, _, [], _ => []
  | _, _, _ :: _, [] => [undef]
  | [], i, _ :: xs, y :: ys => y :: fml [] (i + 1) xs ys
  | k :: ks, i, x :: xs, y :: ys => match Nat.beq k i with
    | true => x :: fml ks (i + 1) xs ys
    | false => y :: fml (k :: ks) (i + 1) xs ys
theorem fmg_fml (l : List Value) : ∀ (l0 l' : List Value) (keep : List Nat) (i : Nat), (∀ j, l'[j]? = l[i + j]?) → fml keep i l0 l' = l' → fmg keep (fun j => (l[j]?).getD undef) i l0 = l' := by
  intro l0
  induction l0 with
  | nil => intro l' keep i _ h; cases keep <;> simpa [fml, fmg] using h
  | cons x xs ih =>
    intro l' keep i hl h
    cases l' with
    | nil => cases keep <;> simp [fml] at h
    | cons y ys =>
      have h0 : l[i]? = some y := by have := hl 0; simpa using this.symm
      have hs : ∀ j, ys[j]? = l[i + 1 + j]? := fun j => by have := hl (j + 1); rw [List.getElem?_cons_succ] at this; rw [this]; congr 1; omega
      cases keep with
      | nil => simp only [fml, List.cons.injEq] at h; simp only [fmg, h0, Option.getD_some]; rw [ih ys [] (i + 1) hs h.2]
      | cons k ks =>
        simp only [fml] at h; simp only [fmg]
        cases hb : Nat.beq k i with
        | true => rw [hb] at h; simp only [List.cons.injEq] at h; simp only []; rw [ih ys ks (i + 1) hs h.2, h.1]
        | false => rw [hb] at h; simp only [List.cons.injEq] at h; simp only [h0, Option.getD_some]; rw [ih ys (k :: ks) (i + 1) hs h.2]
theorem fmg_at {keep : List Nat} {l0 l : List Value} (h : fml keep 0 l0 l = l) : fmg keep (fun j => (l[j]?).getD undef) 0 l0 = l := fmg_fml l l0 l keep 0 (fun j => by simp) h
theorem fat {l : List Value} {n : Nat} {v : Value} {t : List Value} (h : l.drop n = v :: t) : (l[n]?).getD undef = v := by
  have : (l.drop n)[0]? = some v := by rw [h]; rfl
  rw [List.getElem?_drop] at this; rw [Nat.add_zero] at this; rw [this]; rfl
theorem fml_self : ∀ (l : List Value) (keep : List Nat) (i : Nat), fml keep i l l = l := by
  intro l; induction l with
  | nil => intro keep i; cases keep <;> rfl
  | cons x xs ih =>
    intro keep i; cases keep with
    | nil => simp only [fml, ih]
    | cons k ks => simp only [fml]; cases Nat.beq k i <;> simp only [ih]
section
variable {P : Program} {s : Code} {K : Act → World → Prop} {Q' : Exit → Act → World → Prop} {Q : Exit → Act → World → Prop} {l0 : List Value} {q : List Deferred} {w : World}
theorem fcut1 (keep : List Nat) (n0 : Nat) (rel : Value → World → Prop)
    (rest : ∀ (u : Nat → Value) (w' : World), rel (u n0) w' → K ⟨(fmg keep u 0 l0).toArray, q⟩ w')
    (first : ∀ (J K' : Act → World → Prop), (∀ (l : List Value) (w' : World), (∃ (v0 : Value) (t0 : List Value), l.drop n0 = v0 :: t0 ∧ rel v0 w') ∧ fml keep 0 l0 l = l → J ⟨l.toArray, q⟩ w') → (∀ a' w', Met J a' w' → K' a' w') → s.wp P (Exit.then K' Q') ⟨l0.toArray, q⟩ w) : s.wp P (Exit.then K Q') ⟨l0.toArray, q⟩ w := by
  refine wp_cut (fun a' w' => ∃ u : Nat → Value, rel (u n0) w' ∧ a' = ⟨(fmg keep u 0 l0).toArray, q⟩) (fun a' w' h => ?_) (fun J K' hJ hK => first J K' (fun l w' h => hJ _ _ ?_) hK)
  · obtain ⟨u, hr, rfl⟩ := h; exact rest u w' hr
  · obtain ⟨⟨v0, t0, e0, hr⟩, hm⟩ := h; refine ⟨fun j => (l[j]?).getD undef, ?_, by rw [fmg_at hm]⟩; show rel ((l[n0]?).getD undef) w'; rw [fat e0]; exact hr
theorem floop1 (keep : List Nat) (n0 : Nat) (k0 : Nat) (rel : Nat → Value → World → Prop)
    (atStart : ∃ (v0 : Value) (t0 : List Value), l0.drop n0 = v0 :: t0 ∧ rel k0 v0 w)
    (round : ∀ (k : Nat) (u : Nat → Value) (w' : World), rel k (u n0) w' → ∀ (J : Nat → Act → World → Prop) (K' : Act → World → Prop), (∀ (k' : Nat) (l : List Value) (w'' : World), (∃ (v0 : Value) (t0 : List Value), l.drop n0 = v0 :: t0 ∧ rel k' v0 w'') ∧ fml keep 0 l0 l = l → J k' ⟨l.toArray, q⟩ w'') → (∀ a' w'', Handed J k a' w'' → K' a' w'') → s.wp P (Exit.then K' Q) ⟨(fmg keep u 0 l0).toArray, q⟩ w') : (Code.loop s).wp P Q ⟨l0.toArray, q⟩ w := by
  refine wp_loop_ghost_k (fun k a' w' => ∃ u : Nat → Value, rel k (u n0) w' ∧ a' = ⟨(fmg keep u 0 l0).toArray, q⟩) k0 ?_ (fun k a' w' h J K' hJ hK => ?_)
  · obtain ⟨v0, t0, e0, hr⟩ := atStart; refine ⟨fun j => (l0[j]?).getD undef, ?_, by rw [fmg_at (fml_self _ _ _)]⟩; show rel k0 ((l0[n0]?).getD undef) w; rw [fat e0]; exact hr
  · obtain ⟨u, hr, rfl⟩ := h
    refine round k u w' hr J K' (fun k' l w'' h => hJ k' _ _ ?_) hK
    obtain ⟨⟨v0, t0, e0, hr⟩, hm⟩ := h; refine ⟨fun j => (l[j]?).getD undef, ?_, by rw [fmg_at hm]⟩; show rel k' ((l[n0]?).getD undef) w''; rw [fat e0]; exact hr
end
end Go.Proofs.YtbmffanhebjlgaaW.PrintWords

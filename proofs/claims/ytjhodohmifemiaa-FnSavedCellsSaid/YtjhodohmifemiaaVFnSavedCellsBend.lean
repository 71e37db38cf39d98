/- Words for the walk and for the pure half, as far as this claim comes to them. -/
import Derived.Test.YtjhodohmifemiaaVFnSavedCellsBytes
import Derived.Laws.BytesArg
namespace Go.Proofs.YtjhodohmifemiaaW.PrintWords
open Go.RowKit Go.Proofs.YtjhodohmifemiaaW.PrintLast
namespace Kd
section
variable {P : Program} {e base g n cap : Nat} {ok : Nat → Prop} {W : World} {v : Value} {A : Option Addr} {xs : List Int}
theorem B_form (h : B (Kd.int .u8) e W base ok v xs) (_ : 0 < xs.length) : ∃ g cap, v = .slice (some ⟨g, 0, none⟩) xs.length cap ∧ base ≤ g ∧ g < W.heap.size ∧ ∃ cells fr, W.heap[g]? = some (.cells cells e fr) := by
  obtain ⟨g, c, cs, fr, he, hl, hg, ho, hb, _⟩ := h
  exact ⟨g, c, he, hg, blk_lt hb, cs, fr, hb⟩
theorem B_celln (_d : Int) (h : B (Kd.int .u8) e W base ok (.slice (some ⟨g, 0, none⟩) n cap) xs) (i : Int) (h0 : 0 ≤ i) (hi : i < n) : W.cell? ⟨g, i.toNat, none⟩ = some (.int .u8 (rd xs i)) ∧ W.frozen? ⟨g, i.toNat, none⟩ = false := by
  obtain ⟨hn, _, hC⟩ := B_reads' h
  obtain ⟨ad, hA, hc⟩ := at_int hC i h0 (by omega)
  injection hA with hA
  subst hA
  have ha : (⟨g, 0, none⟩ : Addr).add i.toNat = ⟨g, i.toNat, none⟩ := by unfold Addr.add; split <;> simp_all
  rw [ha] at hc
  refine ⟨hc, ?_⟩
  obtain ⟨g', c, cs, fr, he, hl, hg, ho, hb, hf, _⟩ := h
  injection he with h1 h2 h3
  injection h1 with h1
  injection h1 with h1
  subst h1
  have : ¬ (fr.1 ≤ i.toNat) := by omega
  simp [World.frozen?, hb]
  omega
theorem B_putn (h : B (Kd.int .u8) e W base ok (.slice (some ⟨g, 0, none⟩) n cap) xs) (i x : Int) : B (Kd.int .u8) e (W.setCell ⟨g, i.toNat, none⟩ (.int .u8 x)) base ok (.slice (some ⟨g, 0, none⟩) n cap) (xs.set i.toNat x) := by
  obtain ⟨g', c, cs, fr, he, hl, hg, ho, hb, hf, hC⟩ := h
  injection he with h1 h2 h3
  injection h1 with h1
  injection h1 with h1
  subst h1 h2 h3
  have hnew : (W.setCell ⟨g, i.toNat, none⟩ (.int .u8 x)).heap[g]? = some (.cells (cs.setIfInBounds i.toNat (.int .u8 x)) e fr) := by
    simp [World.setCell, Array.getElem?_modify, hb]
  have hC0 := hC W hb
  refine ⟨g, cap, _, fr, by rw [List.length_set], by rw [List.length_set]; exact hl, hg, ho, hnew, by rw [List.length_set]; exact hf, fun V hV => ?_⟩
  refine ⟨rfl, by rw [List.length_set]; exact hC0.2.1, fun _ => ⟨_, rfl, fun j p hj => ⟨[.int .u8 p], rfl, rfl, fun q u hu => ?_⟩⟩⟩
  have hq : q = 0 := by
    rcases q with _ | q
    · rfl
    · simp at hu
  subst hq
  have hu' : Value.int .u8 p = u := by simpa using hu
  subst hu'
  have hjl : j < xs.length := by
    have := (List.getElem?_eq_some_iff.1 hj).1
    rwa [List.length_set] at this
  rw [show (Kd.int .u8).sz = 1 from rfl, Nat.mul_one, Nat.add_zero]
  have hadd : (⟨g, 0, none⟩ : Addr).add j = ⟨g, j, none⟩ := by unfold Addr.add; split <;> simp_all
  rw [hadd]
  have hW : W.cell? ⟨g, j, none⟩ = cs[j]? := by simp [World.cell?, hb]
  have hVc : V.cell? ⟨g, j, none⟩ = (cs.setIfInBounds i.toNat (.int .u8 x))[j]? := by simp [World.cell?, hV]
  rw [hVc]
  obtain ⟨ad, hA, hc⟩ := at_int hC0 (j : Int) (by omega) (by omega)
  injection hA with hA
  subst hA
  rw [Int.toNat_natCast, hadd, hW] at hc
  have hjc : j < cs.size := (Array.getElem?_eq_some_iff.1 hc).1
  by_cases c : i.toNat = j
  · subst c
    rw [Array.getElem?_setIfInBounds_self, if_pos hjc]
    rw [List.getElem?_set_self hjl] at hj
    rw [Option.some.inj hj]
  · rw [Array.getElem?_setIfInBounds_ne c, hc]
    rw [List.getElem?_set_ne c] at hj
    have : rd xs (j : Int) = p := by
      unfold rd
      rw [Int.toNat_natCast, List.getD_eq_getElem?_getD, hj]; rfl
    rw [this]
theorem C_strB {src dst e2 : TypeId} (hs : P.underlying src = some (.slice e2)) (he : P.underlying e2 = some (.int .u8)) (hd : P.underlying dst = some .string) (hn : n = xs.length) (h : (Kd.int .u8).C W (some ⟨g, 0, none⟩) xs.length xs) : (convert src dst (.slice (some ⟨g, 0, none⟩) n cap)).run P W = .ok (.string (strOfNums xs)) W := by
  subst hn
  refine run_convert_bytes_arg W src e2 hs he g 0 xs.length cap xs rfl (fun i hi => ?_) dst hd
  obtain ⟨ad, hA, hc⟩ := at_int h (i : Int) (by omega) (by omega)
  injection hA with hA
  subst hA
  have ha : (⟨g, 0, none⟩ : Addr).add (i : Int).toNat = ⟨g, 0 + i, none⟩ := by unfold Addr.add; split <;> simp_all
  rw [ha] at hc
  rw [hc]
  unfold rd
  rw [Int.toNat_natCast]
theorem B_string {src dst e2 : TypeId} (hs : P.underlying src = some (.slice e2)) (he : P.underlying e2 = some (.int .u8)) (hd : P.underlying dst = some .string) (h : B (Kd.int .u8) e W base ok (.slice (some ⟨g, 0, none⟩) n cap) xs) : (convert src dst (.slice (some ⟨g, 0, none⟩) n cap)).run P W = .ok (.string (strOfNums xs)) W := by
  obtain ⟨hn, _, hC⟩ := B_reads' h
  exact C_strB hs he hd hn hC
theorem V_string {src dst e2 : TypeId} (hs : P.underlying src = some (.slice e2)) (he : P.underlying e2 = some (.int .u8)) (hd : P.underlying dst = some .string) (h : Kd.V (Kd.int .u8) e W base ok (.slice (some ⟨g, 0, none⟩) n cap) xs) : (convert src dst (.slice (some ⟨g, 0, none⟩) n cap)).run P W = .ok (.string (strOfNums xs)) W := by
  obtain ⟨hn, _, hF⟩ := Kd.V_at h
  exact C_strB hs he hd hn (Kd.F_now hF)
theorem B_F (h : B (Kd.int .u8) e W base ok (.slice A n cap) xs) : Kd.F (Kd.int .u8) W ok A xs.length xs := by
  obtain ⟨g, c, cs, fr, he, hl, hg, ho, hb, hf, hC⟩ := h
  injection he with h1 h2 h3
  subst h1
  intro W' hk
  exact hC W' ((hk g ho (blk_lt hb)).trans hb)
end
end Kd
end Go.Proofs.YtjhodohmifemiaaW.PrintWords

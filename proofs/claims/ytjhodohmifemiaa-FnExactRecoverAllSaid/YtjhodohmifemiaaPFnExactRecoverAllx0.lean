-- Written by a program of this session (its own print).
import Derived.Test.YtjhodohmifemiaaProg
import Derived.Below
import Derived.Deep.Draws
import Derived.Deep.AppendLies
import Derived.Maps.AppendAt
import Derived.OwnWalk
import Derived.Laws.BytesArg
import Derived.Laws.MakeOwn
import Derived.Laws.OwnMore
import Derived.Deep.OwnRows
import Derived.Tactics
import Derived.Lib.ConvBytes
import Derived.Laws.Slices
import Derived.WalkKit
import Derived.KernelRfl
import Derived.RowKit3
import Derived.Deep.LoopGhost
import Derived.Deep.QuietTactic
import Derived.BigQuiet
import Derived.WideLaws
import Derived.Deep.DeepCutAuto
import Derived.Deep.CutBlock
import Derived.Deep.RegionHeld3
import Derived.Laws.Rows
import Derived.Lib.AppendStr
import Derived.ArgAppend
import Derived.Laws.IdiomCopy
import Derived.OrdersHeld
import Derived.Laws.BitsLemmas
import Derived.RowKit
import Derived.Lib.SliceRun
import Derived.Test.YtjhodohmifemiaaVFnExactRecoverAllWWords
import Derived.Test.YtjhodohmifemiaaVFnExactRecoverAllWLast
import Derived.Test.YtjhodohmifemiaaVFnExactRecoverAllWTab
import Derived.Test.YtjhodohmifemiaaVFnExactRecoverAllWFour
import Derived.Test.YtjhodohmifemiaaVFnExactRecoverAllWQPut
import Derived.Test.YtjhodohmifemiaaVFnExactRecoverAllWApart
import Derived.Test.YtjhodohmifemiaaVFnExactRecoverAllWArr
import Derived.Test.YtjhodohmifemiaaVFnExactRecoverAllWZeros
import Derived.Test.YtjhodohmifemiaaVFnExactRecoverAllWFoot
import Derived.Test.YtjhodohmifemiaaVFnExactRecoverAllWKept
import Derived.Test.YtjhodohmifemiaaVFnExactRecoverAllWShare
import Derived.Test.YtjhodohmifemiaaVFnExactRecoverAllWN
import Derived.Test.YtjhodohmifemiaaVFnExactRecoverAllWFootNe
import Derived.Test.YtjhodohmifemiaaVFnExactRecoverAllWAt
import Derived.Test.YtjhodohmifemiaaVFnExactRecoverAllWEqStruct
import Derived.Test.YtjhodohmifemiaaVFnExactRecoverAllWRepsOne
import Derived.Test.YtjhodohmifemiaaVFnExactRecoverAllWInv
import Derived.Test.YtjhodohmifemiaaVFnExactRecoverAllWInvWords
import Derived.Test.YtjhodohmifemiaaVFnExactRecoverAllWGuard
import Derived.Test.YtjhodohmifemiaaVFnExactRecoverAllWNEv
import Derived.Test.YtjhodohmifemiaaVFnExactRecoverAllWMore
import Derived.Test.YtjhodohmifemiaaVFnExactRecoverAllCall
import Derived.Test.YtjhodohmifemiaaVFnExactRecoverAllBytes
import Derived.Test.YtjhodohmifemiaaVFnExactRecoverAllShelfMark
namespace Go.Proofs.Ytjhodohmifemiaa.PFnExactRecoverAll
open Go.RowKit Go.Proofs.YtjhodohmifemiaaW.PrintWords Go.Proofs.YtjhodohmifemiaaW.PrintLast Go.Proofs.YtjhodohmifemiaaW.PrintMore
attribute [local go_sem] max2_int min2_int max_two min_two max_three min_three max_four min_four   -- for this text's walks alone
set_option linter.unusedVariables false
set_option linter.unusedSimpArgs false



def errW : Option Int → Value
  | none => .nilIface
  | some c => .iface 0 (.int .i64 c)
theorem errW_none : errW none = .nilIface := rfl
theorem errW_some (c : Int) : errW (some c) = .iface 0 (.int .i64 c) := rfl

theorem info2 : (Try.prog.info? 2).map (fun i => (i.zero, i.size, i.bytes)) = some (some (.int .i64 0), 1, 8) := by kernel_rfl
theorem info5 : (Try.prog.info? 5).map (fun i => (i.zero, i.size, i.bytes)) = some (some (.int .u8 0), 1, 1) := by kernel_rfl
theorem info68 : (Try.prog.info? 68).map (fun i => (i.zero, i.size, i.bytes)) = some (some (.agg #[(.string ⟨#[]⟩), (.int .i64 0), (.int .i64 0), (.slice none 0 0), (.int .i64 0), (.int .i64 0), (.slice none 0 0)]), 7, 96) := by kernel_rfl
-- the values' own types
def rd_L2 (xs : List (List Int)) (i : Int) : (List Int) := xs.getD i.toNat ([] : List Int)
theorem at_L2 {w : World} {A : Option Addr} {n : Nat} {xs : List (List Int)} (h : Kd.C (Kd.slice 2 (Kd.int .i64)) w A n xs) (i : Int) (h0 : 0 ≤ i) (h1 : i < n) : ∃ ad A0 c0, A = some ad ∧ w.cell? (ad.add i.toNat) = some (.slice A0 (rd_L2 xs i).length c0) ∧ (rd_L2 xs i).length ≤ c0 ∧ (Kd.int .i64).C w A0 (rd_L2 xs i).length (rd_L2 xs i) := by
  obtain ⟨ad, c, e, _, hK, hc0⟩ := Kd.C_get h ([] : List Int) i h0 h1
  have hc : ∀ j u, c[j]? = some u → w.cell? (ad.add (i.toNat * 1 + j)) = some u := hc0
  obtain ⟨A0, c0, rfl, l0, g0⟩ := hK
  exact ⟨ad, A0, c0, e, by have hq := hc 0 _ rfl; rwa [Nat.mul_one, Nat.add_zero] at hq, l0, g0⟩

/-! #### struct type 65 -/
structure S65 where
  f0 : Int
  f1 : Int
  f2 : (List Int)
def z65 : S65 := ⟨(0 : Int), (0 : Int), ([] : List Int)⟩
def k65 : Kd S65 := Kd.iso (Kd.pair (Kd.int .i64) (Kd.pair (Kd.int .i64) (Kd.slice 2 (Kd.int .i64)))) (fun x : S65 => (x.f0, x.f1, x.f2))
theorem k65_open {w : World} {x : S65} {cs : List Value} (h : k65.K w x cs) : ∃ A2 c2, cs = [.int .i64 x.f0, .int .i64 x.f1, .slice A2 x.f2.length c2] ∧ x.f2.length ≤ c2 ∧ (Kd.int .i64).C w A2 x.f2.length x.f2 := by
  obtain ⟨_, _, rfl, rfl, ⟨_, _, rfl, rfl, ⟨A2, c2, rfl, l2, g2⟩⟩⟩ := h
  exact ⟨A2, c2, rfl, l2, g2⟩
theorem k65_openM {w : World} {base : Nat} {ok : Nat → Prop} {x : S65} {cs : List Value} (h : k65.M w base ok x cs) : ∃ v2, cs = [.int .i64 x.f0, .int .i64 x.f1, v2] ∧ (Kd.int .i64).R 2 w base ok v2 x.f2 := by
  obtain ⟨_, _, rfl, rfl, ⟨_, _, rfl, rfl, ⟨v2, rfl, g2⟩⟩⟩ := h
  exact ⟨v2, rfl, g2⟩
theorem k65_mk (w : World) (x : S65) {A2 : Option Addr} {c2 : Nat} (l2 : x.f2.length ≤ c2) (g2 : (Kd.int .i64).C w A2 x.f2.length x.f2) : k65.K w x [.int .i64 x.f0, .int .i64 x.f1, .slice A2 x.f2.length c2] := ⟨[.int .i64 x.f0], [.int .i64 x.f1, .slice A2 x.f2.length c2], rfl, rfl, ⟨[.int .i64 x.f1], [.slice A2 x.f2.length c2], rfl, rfl, ⟨A2, c2, rfl, l2, g2⟩⟩⟩
theorem k65_mkM (w : World) (base : Nat) (ok : Nat → Prop) (x : S65) {v2 : Value} (g2 : (Kd.int .i64).R 2 w base ok v2 x.f2) : k65.M w base ok x [.int .i64 x.f0, .int .i64 x.f1, v2] := ⟨[.int .i64 x.f0], [.int .i64 x.f1, v2], rfl, rfl, ⟨[.int .i64 x.f1], [v2], rfl, rfl, ⟨v2, rfl, g2⟩⟩⟩
def rd_T65 (xs : List S65) (i : Int) : S65 := xs.getD i.toNat z65
theorem at_T65 {w : World} {A : Option Addr} {n : Nat} {xs : List S65} (h : Kd.C k65 w A n xs) (i : Int) (h0 : 0 ≤ i) (h1 : i < n) : ∃ ad A2 c2, A = some ad ∧ w.cell? (ad.add (i.toNat * 3)) = some (.int .i64 (rd_T65 xs i).f0) ∧ w.cell? ⟨(ad.add (i.toNat * 3)).block, (ad.add (i.toNat * 3)).off + 1, none⟩ = some (.int .i64 (rd_T65 xs i).f1) ∧ w.cell? ⟨(ad.add (i.toNat * 3)).block, (ad.add (i.toNat * 3)).off + 2, none⟩ = some (.slice A2 (rd_T65 xs i).f2.length c2) ∧ (rd_T65 xs i).f2.length ≤ c2 ∧ (Kd.int .i64).C w A2 (rd_T65 xs i).f2.length (rd_T65 xs i).f2 := by
  obtain ⟨ad, c, e, _, hK, hc0⟩ := Kd.C_get h z65 i h0 h1
  have hc : ∀ j u, c[j]? = some u → w.cell? (ad.add (i.toNat * 3 + j)) = some u := hc0
  obtain ⟨A2, c2, rfl, l2, g2⟩ := k65_open hK
  exact ⟨ad, A2, c2, e, hc 0 _ rfl, by rw [← add_field _ _ 1 (by omega)]; exact hc 1 _ rfl, by rw [← add_field _ _ 2 (by omega)]; exact hc 2 _ rfl, l2, g2⟩

/-! #### struct type 66 -/
structure S66 where
  f0 : Int
  f1 : Int
  f2 : (List Int)
def z66 : S66 := ⟨(0 : Int), (0 : Int), ([] : List Int)⟩
def k66 : Kd S66 := Kd.iso (Kd.pair (Kd.int .i64) (Kd.pair (Kd.int .i64) (Kd.slice 2 (Kd.int .i64)))) (fun x : S66 => (x.f0, x.f1, x.f2))
theorem k66_open {w : World} {x : S66} {cs : List Value} (h : k66.K w x cs) : ∃ A2 c2, cs = [.int .i64 x.f0, .int .i64 x.f1, .slice A2 x.f2.length c2] ∧ x.f2.length ≤ c2 ∧ (Kd.int .i64).C w A2 x.f2.length x.f2 := by
  obtain ⟨_, _, rfl, rfl, ⟨_, _, rfl, rfl, ⟨A2, c2, rfl, l2, g2⟩⟩⟩ := h
  exact ⟨A2, c2, rfl, l2, g2⟩
theorem k66_openM {w : World} {base : Nat} {ok : Nat → Prop} {x : S66} {cs : List Value} (h : k66.M w base ok x cs) : ∃ v2, cs = [.int .i64 x.f0, .int .i64 x.f1, v2] ∧ (Kd.int .i64).R 2 w base ok v2 x.f2 := by
  obtain ⟨_, _, rfl, rfl, ⟨_, _, rfl, rfl, ⟨v2, rfl, g2⟩⟩⟩ := h
  exact ⟨v2, rfl, g2⟩
theorem k66_mk (w : World) (x : S66) {A2 : Option Addr} {c2 : Nat} (l2 : x.f2.length ≤ c2) (g2 : (Kd.int .i64).C w A2 x.f2.length x.f2) : k66.K w x [.int .i64 x.f0, .int .i64 x.f1, .slice A2 x.f2.length c2] := ⟨[.int .i64 x.f0], [.int .i64 x.f1, .slice A2 x.f2.length c2], rfl, rfl, ⟨[.int .i64 x.f1], [.slice A2 x.f2.length c2], rfl, rfl, ⟨A2, c2, rfl, l2, g2⟩⟩⟩
theorem k66_mkM (w : World) (base : Nat) (ok : Nat → Prop) (x : S66) {v2 : Value} (g2 : (Kd.int .i64).R 2 w base ok v2 x.f2) : k66.M w base ok x [.int .i64 x.f0, .int .i64 x.f1, v2] := ⟨[.int .i64 x.f0], [.int .i64 x.f1, v2], rfl, rfl, ⟨[.int .i64 x.f1], [v2], rfl, rfl, ⟨v2, rfl, g2⟩⟩⟩
def rd_T66 (xs : List S66) (i : Int) : S66 := xs.getD i.toNat z66
theorem at_T66 {w : World} {A : Option Addr} {n : Nat} {xs : List S66} (h : Kd.C k66 w A n xs) (i : Int) (h0 : 0 ≤ i) (h1 : i < n) : ∃ ad A2 c2, A = some ad ∧ w.cell? (ad.add (i.toNat * 3)) = some (.int .i64 (rd_T66 xs i).f0) ∧ w.cell? ⟨(ad.add (i.toNat * 3)).block, (ad.add (i.toNat * 3)).off + 1, none⟩ = some (.int .i64 (rd_T66 xs i).f1) ∧ w.cell? ⟨(ad.add (i.toNat * 3)).block, (ad.add (i.toNat * 3)).off + 2, none⟩ = some (.slice A2 (rd_T66 xs i).f2.length c2) ∧ (rd_T66 xs i).f2.length ≤ c2 ∧ (Kd.int .i64).C w A2 (rd_T66 xs i).f2.length (rd_T66 xs i).f2 := by
  obtain ⟨ad, c, e, _, hK, hc0⟩ := Kd.C_get h z66 i h0 h1
  have hc : ∀ j u, c[j]? = some u → w.cell? (ad.add (i.toNat * 3 + j)) = some u := hc0
  obtain ⟨A2, c2, rfl, l2, g2⟩ := k66_open hK
  exact ⟨ad, A2, c2, e, hc 0 _ rfl, by rw [← add_field _ _ 1 (by omega)]; exact hc 1 _ rfl, by rw [← add_field _ _ 2 (by omega)]; exact hc 2 _ rfl, l2, g2⟩

/-- Two in line whose blocks are apart. -/
def Kd.sp {α β : Type} (a : Kd α) (b : Kd β) : Kd (α × β) where
  sz := a.sz + b.sz
  E := a.E ++ b.E
  K := fun w x cs => ∃ c0 c1, cs = c0 ++ c1 ∧ a.K w x.1 c0 ∧ b.K w x.2 c1
  M := fun w base ok x cs => ∃ c0 c1 okA okB, cs = c0 ++ c1 ∧ (∀ k, okA k → ok k) ∧ (∀ k, okB k → ok k) ∧ (∀ k, okA k → ¬ okB k) ∧ a.M w base okA x.1 c0 ∧ b.M w base okB x.2 c1
  K_len := by
    rintro w x cs ⟨c0, c1, rfl, h0, h1⟩
    rw [List.length_append, a.K_len h0, b.K_len h1]
  K_one := by
    rintro w x cs ⟨c0, c1, rfl, h0, h1⟩ u hu
    rcases List.mem_append.1 hu with hu | hu
    · exact a.K_one h0 u hu
    · exact b.K_one h1 u hu
  K_below := by
    rintro w w1 x cs hb ⟨c0, c1, rfl, h0, h1⟩
    exact ⟨c0, c1, rfl, a.K_below hb h0, b.K_below hb h1⟩
  K_of_M := by
    rintro w base ok x cs ⟨c0, c1, okA, okB, rfl, _, _, _, h0, h1⟩
    exact ⟨c0, c1, rfl, a.K_of_M h0, b.K_of_M h1⟩
  M_mono := by
    rintro w base ok ok' x cs hok ⟨c0, c1, okA, okB, rfl, hA, hB, hd, h0, h1⟩
    exact ⟨c0, c1, okA, okB, rfl, fun k hk => hok k (hA k hk), fun k hk => hok k (hB k hk), hd, h0, h1⟩
  M_bound := by
    rintro w base ok x cs ⟨c0, c1, okA, okB, rfl, hA, hB, hd, h0, h1⟩
    refine ⟨c0, c1, _, _, rfl, ?_, ?_, fun k h2 h3 => hd k h2.1 h3.1, a.M_bound h0, b.M_bound h1⟩
    · rintro k ⟨h2, h3, h4, q, hq, hc⟩
      exact ⟨hA k h2, h3, h4, q, List.mem_append_left _ hq, hc⟩
    · rintro k ⟨h2, h3, h4, q, hq, hc⟩
      exact ⟨hB k h2, h3, h4, q, List.mem_append_right _ hq, hc⟩
  M_move := by
    rintro w w1 base ok x cs hm ⟨c0, c1, okA, okB, rfl, hA, hB, hd, h0, h1⟩
    exact ⟨c0, c1, okA, okB, rfl, hA, hB, hd, a.M_move (fun k hk => hm k (hA k hk)) h0, b.M_move (fun k hk => hm k (hB k hk)) h1⟩
  M_lower := by
    rintro w base base' ok x cs hb ⟨c0, c1, okA, okB, rfl, hA, hB, hd, h0, h1⟩
    exact ⟨c0, c1, okA, okB, rfl, hA, hB, hd, a.M_lower hb h0, b.M_lower hb h1⟩
/-! #### struct type 68 -/
structure S68 where
  f0 : ByteArray
  f1 : S65
  f2 : S66
def z68 : S68 := ⟨(⟨#[]⟩ : ByteArray), z65, z66⟩
def k68 : Kd S68 := Kd.iso (Kd.pair Kd.string (Kd.sp k65 k66)) (fun x : S68 => (x.f0, x.f1, x.f2))
theorem k68_open {w : World} {x : S68} {cs : List Value} (h : k68.K w x cs) : ∃ A3 c3 A6 c6, cs = [.string x.f0, .int .i64 x.f1.f0, .int .i64 x.f1.f1, .slice A3 x.f1.f2.length c3, .int .i64 x.f2.f0, .int .i64 x.f2.f1, .slice A6 x.f2.f2.length c6] ∧ x.f1.f2.length ≤ c3 ∧ (Kd.int .i64).C w A3 x.f1.f2.length x.f1.f2 ∧ x.f2.f2.length ≤ c6 ∧ (Kd.int .i64).C w A6 x.f2.f2.length x.f2.f2 := by
  obtain ⟨_, _, rfl, rfl, ⟨_, _, rfl, s1, s4⟩⟩ := h
  obtain ⟨A3, c3, rfl, l3, g3⟩ := k65_open s1
  obtain ⟨A6, c6, rfl, l6, g6⟩ := k66_open s4
  exact ⟨A3, c3, A6, c6, rfl, l3, g3, l6, g6⟩
theorem k68_openS {w : World} {base : Nat} {ok : Nat → Prop} {x : S68} {cs : List Value} (h : k68.M w base ok x cs) : ∃ v3 v6 okA okB, cs = [.string x.f0, .int .i64 x.f1.f0, .int .i64 x.f1.f1, v3, .int .i64 x.f2.f0, .int .i64 x.f2.f1, v6] ∧ (∀ k, okA k → ok k) ∧ (∀ k, okB k → ok k) ∧ (∀ k, okA k → ¬ okB k) ∧ (Kd.int .i64).R 2 w base okA v3 x.f1.f2 ∧ (Kd.int .i64).R 2 w base okB v6 x.f2.f2 := by
  obtain ⟨_, _, rfl, rfl, ⟨_, _, okA, okB, rfl, hA, hB, hd, s1, s4⟩⟩ := h
  obtain ⟨v3, rfl, g3⟩ := k65_openM s1
  obtain ⟨v6, rfl, g6⟩ := k66_openM s4
  exact ⟨v3, v6, okA, okB, rfl, hA, hB, hd, g3, g6⟩
theorem k68_openM {w : World} {base : Nat} {ok : Nat → Prop} {x : S68} {cs : List Value} (h : k68.M w base ok x cs) : ∃ v3 v6, cs = [.string x.f0, .int .i64 x.f1.f0, .int .i64 x.f1.f1, v3, .int .i64 x.f2.f0, .int .i64 x.f2.f1, v6] ∧ (Kd.int .i64).R 2 w base ok v3 x.f1.f2 ∧ (Kd.int .i64).R 2 w base ok v6 x.f2.f2 := by
  obtain ⟨v3, v6, okA, okB, e, hA, hB, _, g3, g6⟩ := k68_openS h
  exact ⟨v3, v6, e, Kd.R_mono g3 hA, Kd.R_mono g6 hB⟩
theorem k68_mk (w : World) (x : S68) {A3 : Option Addr} {c3 : Nat} (l3 : x.f1.f2.length ≤ c3) (g3 : (Kd.int .i64).C w A3 x.f1.f2.length x.f1.f2) {A6 : Option Addr} {c6 : Nat} (l6 : x.f2.f2.length ≤ c6) (g6 : (Kd.int .i64).C w A6 x.f2.f2.length x.f2.f2) : k68.K w x [.string x.f0, .int .i64 x.f1.f0, .int .i64 x.f1.f1, .slice A3 x.f1.f2.length c3, .int .i64 x.f2.f0, .int .i64 x.f2.f1, .slice A6 x.f2.f2.length c6] := ⟨[.string x.f0], [.int .i64 x.f1.f0, .int .i64 x.f1.f1, .slice A3 x.f1.f2.length c3, .int .i64 x.f2.f0, .int .i64 x.f2.f1, .slice A6 x.f2.f2.length c6], rfl, rfl, ⟨[.int .i64 x.f1.f0, .int .i64 x.f1.f1, .slice A3 x.f1.f2.length c3], [.int .i64 x.f2.f0, .int .i64 x.f2.f1, .slice A6 x.f2.f2.length c6], rfl, (k65_mk w x.f1 l3 g3), (k66_mk w x.f2 l6 g6)⟩⟩
theorem k68_mkM (w : World) (base : Nat) (ok : Nat → Prop) (x : S68) {v3 : Value} {okA okB : Nat → Prop} (g3 : (Kd.int .i64).R 2 w base okA v3 x.f1.f2) {v6 : Value} (g6 : (Kd.int .i64).R 2 w base okB v6 x.f2.f2) (hA : ∀ k, okA k → ok k) (hB : ∀ k, okB k → ok k) (hd : ∀ k, okA k → ¬ okB k) : k68.M w base ok x [.string x.f0, .int .i64 x.f1.f0, .int .i64 x.f1.f1, v3, .int .i64 x.f2.f0, .int .i64 x.f2.f1, v6] := ⟨[.string x.f0], [.int .i64 x.f1.f0, .int .i64 x.f1.f1, v3, .int .i64 x.f2.f0, .int .i64 x.f2.f1, v6], rfl, rfl, ⟨[.int .i64 x.f1.f0, .int .i64 x.f1.f1, v3], [.int .i64 x.f2.f0, .int .i64 x.f2.f1, v6], okA, okB, rfl, hA, hB, hd, (k65_mkM w base okA x.f1 g3), (k66_mkM w base okB x.f2 g6)⟩⟩
def rd_T68 (xs : List S68) (i : Int) : S68 := xs.getD i.toNat z68
theorem at_T68 {w : World} {A : Option Addr} {n : Nat} {xs : List S68} (h : Kd.C k68 w A n xs) (i : Int) (h0 : 0 ≤ i) (h1 : i < n) : ∃ ad A3 c3 A6 c6, A = some ad ∧ w.cell? (ad.add (i.toNat * 7)) = some (.string (rd_T68 xs i).f0) ∧ w.cell? ⟨(ad.add (i.toNat * 7)).block, (ad.add (i.toNat * 7)).off + 1, none⟩ = some (.int .i64 (rd_T68 xs i).f1.f0) ∧ w.cell? ⟨(ad.add (i.toNat * 7)).block, (ad.add (i.toNat * 7)).off + 2, none⟩ = some (.int .i64 (rd_T68 xs i).f1.f1) ∧ w.cell? ⟨(ad.add (i.toNat * 7)).block, (ad.add (i.toNat * 7)).off + 3, none⟩ = some (.slice A3 (rd_T68 xs i).f1.f2.length c3) ∧ w.cell? ⟨(ad.add (i.toNat * 7)).block, (ad.add (i.toNat * 7)).off + 4, none⟩ = some (.int .i64 (rd_T68 xs i).f2.f0) ∧ w.cell? ⟨(ad.add (i.toNat * 7)).block, (ad.add (i.toNat * 7)).off + 5, none⟩ = some (.int .i64 (rd_T68 xs i).f2.f1) ∧ w.cell? ⟨(ad.add (i.toNat * 7)).block, (ad.add (i.toNat * 7)).off + 6, none⟩ = some (.slice A6 (rd_T68 xs i).f2.f2.length c6) ∧ (rd_T68 xs i).f1.f2.length ≤ c3 ∧ (Kd.int .i64).C w A3 (rd_T68 xs i).f1.f2.length (rd_T68 xs i).f1.f2 ∧ (rd_T68 xs i).f2.f2.length ≤ c6 ∧ (Kd.int .i64).C w A6 (rd_T68 xs i).f2.f2.length (rd_T68 xs i).f2.f2 := by
  obtain ⟨ad, c, e, _, hK, hc0⟩ := Kd.C_get h z68 i h0 h1
  have hc : ∀ j u, c[j]? = some u → w.cell? (ad.add (i.toNat * 7 + j)) = some u := hc0
  obtain ⟨A3, c3, A6, c6, rfl, l3, g3, l6, g6⟩ := k68_open hK
  exact ⟨ad, A3, c3, A6, c6, e, hc 0 _ rfl, by rw [← add_field _ _ 1 (by omega)]; exact hc 1 _ rfl, by rw [← add_field _ _ 2 (by omega)]; exact hc 2 _ rfl, by rw [← add_field _ _ 3 (by omega)]; exact hc 3 _ rfl, by rw [← add_field _ _ 4 (by omega)]; exact hc 4 _ rfl, by rw [← add_field _ _ 5 (by omega)]; exact hc 5 _ rfl, by rw [← add_field _ _ 6 (by omega)]; exact hc 6 _ rfl, l3, g3, l6, g6⟩

end Go.Proofs.Ytjhodohmifemiaa.PFnExactRecoverAll

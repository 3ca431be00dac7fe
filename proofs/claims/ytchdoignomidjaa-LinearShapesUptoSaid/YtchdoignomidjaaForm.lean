/- Rationals and terms of forms in memory: how an element of a row is read. -/
import Derived.Test.YtchdoignomidjaaSame
set_option linter.unusedVariables false
set_option linter.unusedSimpArgs false
namespace Go.Proofs.Ytchdoignomidjaa.F
open Go.RowKit Go.Shelf

/-- a rational as it lies: sign's flag, numerator's limbs, denominator's limbs -/
abbrev RatD := (Bool × List Int) × List Int
def kRat : Knd RatD := (Knd.bool.pair (Knd.int .u32).slice).pair (Knd.int .u32).slice
def kMono : Knd (Int × RatD) := (Knd.int .i64).pair kRat

/-- what is known of the two slices of a rational in memory -/
def LiesQ (w : World) (x : RatD) (B : Option Addr) (c : Nat) (D : Option Addr) (d : Nat) : Prop :=
  x.1.2.length ≤ c ∧ x.2.length ≤ d ∧ Rn w B x.1.2 ∧ Rn w D x.2

theorem kRat_cells {w : World} {x : RatD} {cs : List Value} (h : kRat.C w x cs) : ∃ B c D d, cs = [.bool x.1.1, .slice B x.1.2.length c, .slice D x.2.length d] ∧ LiesQ w x B c D d := by
  obtain ⟨c1, c2, rfl, ⟨c3, c4, rfl, h1, h2⟩, h3⟩ := h
  obtain ⟨B, c, rfl, h4, h5, h6⟩ := h2
  obtain ⟨D, d, rfl, h7, h8, h9⟩ := h3
  have h1' : c3 = [.bool x.1.1] := h1
  subst h1'
  exact ⟨B, c, D, d, rfl, h4, h7, h6, h9⟩

theorem at_rat {w : World} {A : Option Addr} {xs : List RatD} (h : kRat.Row w A xs) (i : Nat) (hi : i < xs.length) :
    ∃ ad B c D d, A = some ad ∧ w.cell? (ad.add (i * 3)) = some (.bool xs[i].1.1) ∧ w.cell? (ad.add (i * 3 + 1)) = some (.slice B xs[i].1.2.length c) ∧ w.cell? (ad.add (i * 3 + 2)) = some (.slice D xs[i].2.length d) ∧ LiesQ w xs[i] B c D d := by
  obtain ⟨ad, cs, e, hC, hc⟩ := h i hi
  obtain ⟨B, c, D, d, rfl, hq⟩ := kRat_cells hC
  exact ⟨ad, B, c, D, d, e, hc 0 _ rfl, hc 1 _ rfl, hc 2 _ rfl, hq⟩

theorem at_mono {w : World} {A : Option Addr} {xs : List (Int × RatD)} (h : kMono.Row w A xs) (i : Nat) (hi : i < xs.length) :
    ∃ ad B c D d, A = some ad ∧ w.cell? (ad.add (i * 4)) = some (.int .i64 xs[i].1) ∧ w.cell? (ad.add (i * 4 + 1)) = some (.bool xs[i].2.1.1) ∧ w.cell? (ad.add (i * 4 + 2)) = some (.slice B xs[i].2.1.2.length c) ∧ w.cell? (ad.add (i * 4 + 3)) = some (.slice D xs[i].2.2.length d) ∧ LiesQ w xs[i].2 B c D d := by
  obtain ⟨ad, cs, e, hC, hc⟩ := h i hi
  obtain ⟨c1, c2, rfl, h1, h2⟩ := hC
  have h1' : c1 = [.int .i64 xs[i].1] := h1
  subst h1'
  obtain ⟨B, c, D, d, rfl, hq⟩ := kRat_cells h2
  exact ⟨ad, B, c, D, d, e, hc 0 _ rfl, hc 1 _ rfl, hc 2 _ rfl, hc 3 _ rfl, hq⟩
end Go.Proofs.Ytchdoignomidjaa.F

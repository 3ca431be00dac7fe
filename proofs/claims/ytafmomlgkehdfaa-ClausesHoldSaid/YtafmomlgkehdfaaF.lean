/- Foundation: how lists are read out of memory (a slice's cells, element by element), and that such a reading outlasts whatever only adds memory. No condition. -/
import Derived.WalkKit
import Derived.KernelRfl
import Derived.Lib.Hide
import Derived.Deep.LoopGhost
import Derived.Deep.QuietTactic
import Derived.BigQuiet
import Derived.Deep.Draws
import Derived.WideLaws
set_option linter.unusedVariables false
namespace Go.Proofs.Ytafmomlgkehdfaa.F
open Go.RowKit

/-- A kind: how a value of a Lean type stands in cells; it outlasts what only adds memory. -/
structure Knd (α : Type) where
  sz : Nat
  C : World → α → List Value → Prop
  len : ∀ {w : World} {x : α} {cs : List Value}, C w x cs → cs.length = sz
  below : ∀ {w w1 : World} {x : α} {cs : List Value}, Below w.heap.size w w1 → C w x cs → C w1 x cs

theorem cell_below {w w1 : World} (hb : Below w.heap.size w w1) {a : Addr} {v : Value} (hc : w.cell? a = some v) : w1.cell? a = some v :=
  (hb.cell (World.block_lt_of_cell? w a hc)).trans hc

theorem below_drewN {B : Nat} {a w : World} (h : Below B a w) (n : Nat) : Below B a (w.drewN n) := ⟨h.os, h.tape, h.output, h.size, h.block⟩

namespace Knd
/-- The row at A: element i's cells lie from A + i * sz on. -/
def Row {α : Type} (d : Knd α) (w : World) (A : Option Addr) (xs : List α) : Prop :=
  ∀ (i : Nat) (h : i < xs.length), ∃ ad cs, A = some ad ∧ d.C w xs[i] cs ∧ ∀ (j : Nat) u, cs[j]? = some u → w.cell? (ad.add (i * d.sz + j)) = some u

theorem Row.below {α : Type} {d : Knd α} {w w1 : World} {A : Option Addr} {xs : List α} (hb : Below w.heap.size w w1) (h : d.Row w A xs) : d.Row w1 A xs := by
  intro i hi
  obtain ⟨ad, cs, e, hC, hc⟩ := h i hi
  exact ⟨ad, cs, e, d.below hb hC, fun j u hu => cell_below hb (hc j u hu)⟩

def int (k : IntKind) : Knd Int := ⟨1, fun _ x cs => cs = [.int k x], fun h => by rw [h]; rfl, fun _ h => h⟩
def bool : Knd Bool := ⟨1, fun _ x cs => cs = [.bool x], fun h => by rw [h]; rfl, fun _ h => h⟩
def slice {α : Type} (d : Knd α) : Knd (List α) :=
  ⟨1, fun w xs cs => ∃ A c, cs = [.slice A xs.length c] ∧ xs.length ≤ c ∧ xs.length ≤ 9223372036854775807 ∧ d.Row w A xs,
   fun ⟨_, _, h, _⟩ => by rw [h]; rfl, fun hb ⟨A, c, h1, h2, h3, h4⟩ => ⟨A, c, h1, h2, h3, h4.below hb⟩⟩

theorem row_nil {α : Type} (d : Knd α) (w : World) (A : Option Addr) : d.Row w A ([] : List α) := fun i h => by simp at h

theorem at_int {k : IntKind} {w : World} {A : Option Addr} {xs : List Int} (h : (int k).Row w A xs) (i : Nat) (hi : i < xs.length) : ∃ ad, A = some ad ∧ w.cell? (ad.add i) = some (.int k xs[i]) := by
  obtain ⟨ad, cs, e, hC, hc⟩ := h i hi
  have hC' : cs = [.int k xs[i]] := hC
  subst hC'
  refine ⟨ad, e, ?_⟩
  have := hc 0 _ rfl
  rwa [show i * (int k).sz + 0 = i from by show i * 1 + 0 = i; omega] at this

theorem at_bool {w : World} {A : Option Addr} {xs : List Bool} (h : bool.Row w A xs) (i : Nat) (hi : i < xs.length) : ∃ ad, A = some ad ∧ w.cell? (ad.add i) = some (.bool xs[i]) := by
  obtain ⟨ad, cs, e, hC, hc⟩ := h i hi
  have hC' : cs = [.bool xs[i]] := hC
  subst hC'
  refine ⟨ad, e, ?_⟩
  have := hc 0 _ rfl
  rwa [show i * bool.sz + 0 = i from by show i * 1 + 0 = i; omega] at this

theorem at_slice {α : Type} {d : Knd α} {w : World} {A : Option Addr} {xs : List (List α)} (h : d.slice.Row w A xs) (i : Nat) (hi : i < xs.length) :
    ∃ ad B c, A = some ad ∧ w.cell? (ad.add i) = some (.slice B xs[i].length c) ∧ xs[i].length ≤ c ∧ xs[i].length ≤ 9223372036854775807 ∧ d.Row w B xs[i] := by
  obtain ⟨ad, cs, e, hC, hc⟩ := h i hi
  obtain ⟨B, c, rfl, h1, h2, h3⟩ := hC
  refine ⟨ad, B, c, e, ?_, h1, h2, h3⟩
  have := hc 0 _ rfl
  rwa [show i * d.slice.sz + 0 = i from by show i * 1 + 0 = i; omega] at this
end Knd
end Go.Proofs.Ytafmomlgkehdfaa.F

/- The walks of the reference's layer 1, fifth part: Gcd. -/
import Derived.Test.YtidgpkccjcddgaaGreatDoorGf
set_option linter.unusedVariables false
set_option linter.unusedSimpArgs false
namespace Go.Proofs.YtidgpkccjcddgaaGreatDoor.F
open Go.RowKit Go.Shelf Go.Proofs.YtidgpkccjcddgaaGreatDoorW.PrintLast
/-- an answer that is a number, as a fact of the new world -/
def ToldN (w : World) (n : Nat) (e : Ending) (w' : World) : Prop := ∃ A c, e = .returned (.slice A (dg n).length c) ∧ In w' A c (dg n) ∧ Below w.heap.size w w'
theorem Told.nat {w : World} {n : Nat} {e : Ending} {w' : World} (h : Told w (n : Int) e w') : ToldN w n e w' := by
  obtain ⟨A, c, h1, h2, h3, h4⟩ := h
  rw [Int.toNat_natCast] at h1 h2 h3
  exact ⟨A, c, h1, In.dg h3 h2, h4⟩
end Go.Proofs.YtidgpkccjcddgaaGreatDoor.F
/- The walks of the reference's layer 1, sixth part: Div. -/
namespace Go.Proofs.YtidgpkccjcddgaaGreatDoor.F
open Go.RowKit Go.Shelf Go.Proofs.YtidgpkccjcddgaaGreatDoorW.PrintLast
def ToldD (w : World) (a b : Nat) (e : Ending) (w' : World) : Prop :=
  ∃ A c B d, e = .returned (.tuple #[.slice A (dg (a / b)).length c, .slice B (dg (a % b)).length d, .int .i64 0]) ∧ In w' A c (dg (a / b)) ∧ In w' B d (dg (a % b)) ∧ Below w.heap.size w w'
def Fresh9 (g : Nat) (A : Option Addr) : Prop := ∀ ad, A = some ad → g < ad.block
theorem Rn.apart {w : World} {A : Option Addr} {xs : List Int} {g : Nat} (h : Rn w A xs) (hn : Fresh9 g A) (i : Nat) (v : Value) : Rn (w.setCell ⟨g, i, none⟩ v) A xs := by
  intro k hk
  obtain ⟨ad, vs, e, hC, hc⟩ := h k hk
  refine ⟨ad, vs, e, hC, fun j u hu => ?_⟩
  have hb : (ad.add (k * (Knd.int IntKind.u32).sz + j)).block ≠ g := by
    have h1 := hn ad e
    have h2 : (ad.add (k * (Knd.int IntKind.u32).sz + j)).block = ad.block := by unfold Addr.add; split <;> rfl
    omega
  rw [World.cell?_of_block (Below.heap_setCell w _ v _ hb)]
  exact hc j u hu
theorem In.apart {w : World} {A : Option Addr} {c : Nat} {xs : List Int} {g : Nat} (h : In w A c xs) (hn : Fresh9 g A) (i : Nat) (v : Value) : In (w.setCell ⟨g, i, none⟩ v) A c xs := ⟨h.row.apart hn i v, h.lim, h.cap⟩
def ToldNF (w : World) (n : Nat) (e : Ending) (w' : World) : Prop := ∃ A c, e = .returned (.slice A (dg n).length c) ∧ In w' A c (dg n) ∧ Below w.heap.size w w' ∧ ∀ g, g < w.heap.size → Fresh9 g A
theorem ToldF.nat {w : World} {n : Nat} {e : Ending} {w' : World} (h : ToldF w (n : Int) e w') : ToldNF w n e w' := by
  obtain ⟨A, c, h1, h2, h3, h4, h5⟩ := h
  rw [Int.toNat_natCast] at h1 h2 h3
  exact ⟨A, c, h1, In.dg h3 h2, h4, fun g hg ad h6 => Nat.lt_of_lt_of_le hg (h5 ad h6)⟩
end Go.Proofs.YtidgpkccjcddgaaGreatDoor.F

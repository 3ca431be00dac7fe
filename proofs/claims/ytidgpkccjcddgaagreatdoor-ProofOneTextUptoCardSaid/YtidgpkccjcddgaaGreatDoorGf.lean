/- The walks of the reference's layer 1, first part: Norm, at, Cmp, Of. Conditions: the limbs are limbs, lengths at most 2^41. -/
import Derived.Test.YtidgpkccjcddgaaGreatDoorGe
set_option linter.unusedVariables false
set_option linter.unusedSimpArgs false
namespace Go.Proofs.YtidgpkccjcddgaaGreatDoor.F
open Go.RowKit Go.Shelf Go.Proofs.YtidgpkccjcddgaaGreatDoorW.PrintLast
/-- a number in new memory, and where -/
def ToldF (w : World) (n : Int) (e : Ending) (w' : World) : Prop :=
  ∃ A c, e = .returned (.slice A (dg n.toNat).length c) ∧ (dg n.toNat).length ≤ c ∧ Rn w' A (dg n.toNat) ∧ Below w.heap.size w w' ∧ ∀ ad, A = some ad → w.heap.size ≤ ad.block
theorem ToldF.told {w : World} {n : Int} {e : Ending} {w' : World} (h : ToldF w n e w') : Told w n e w' := by
  obtain ⟨A, c, h1, h2, h3, h4, _⟩ := h
  exact ⟨A, c, h1, h2, h3, h4⟩
end Go.Proofs.YtidgpkccjcddgaaGreatDoor.F
/- The walks of the reference's layer 1, second part: Cmp, Add, Sub. -/
namespace Go.Proofs.YtidgpkccjcddgaaGreatDoor.F
open Go.RowKit Go.Shelf Go.Proofs.YtidgpkccjcddgaaGreatDoorW.PrintLast
end Go.Proofs.YtidgpkccjcddgaaGreatDoor.F
/- The walks of the reference's layer 1, third part: Mul, twice, Bit. -/
namespace Go.Proofs.YtidgpkccjcddgaaGreatDoor.F
open Go.RowKit Go.Shelf Go.Proofs.YtidgpkccjcddgaaGreatDoorW.PrintLast
end Go.Proofs.YtidgpkccjcddgaaGreatDoor.F
/- The walks of the reference's layer 1, fourth part: Bit, Shift by -1. -/
namespace Go.Proofs.YtidgpkccjcddgaaGreatDoor.F
open Go.RowKit Go.Shelf Go.Proofs.YtidgpkccjcddgaaGreatDoorW.PrintLast
end Go.Proofs.YtidgpkccjcddgaaGreatDoor.F

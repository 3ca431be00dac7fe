/- The walks of the reference's layer 2: made, Norm, Neg, Of, Mul, Add, Sign. -/
import Derived.Test.YtidgpkccjcddgaaGreatDoorGg
set_option linter.unusedVariables false
set_option linter.unusedSimpArgs false
namespace Go.Proofs.YtidgpkccjcddgaaGreatDoor.F
open Go.RowKit Go.Shelf Go.Proofs.YtidgpkccjcddgaaGreatDoorW.PrintLast
end Go.Proofs.YtidgpkccjcddgaaGreatDoor.F
/- The walks of the reference's layer 2, second part: Of, Sign, Mul, Add. -/
namespace Go.Proofs.YtidgpkccjcddgaaGreatDoor.F
open Go.RowKit Go.Shelf Go.Proofs.YtidgpkccjcddgaaGreatDoorW.PrintLast
end Go.Proofs.YtidgpkccjcddgaaGreatDoor.F
/- The walks of the reference's layer 2, third part: Add, Sign. -/
namespace Go.Proofs.YtidgpkccjcddgaaGreatDoor.F
open Go.RowKit Go.Shelf Go.Proofs.YtidgpkccjcddgaaGreatDoorW.PrintLast
end Go.Proofs.YtidgpkccjcddgaaGreatDoor.F
/- The walks of the reference's layer 3, first part: Norm. -/
namespace Go.Proofs.YtidgpkccjcddgaaGreatDoor.F
open Go.RowKit Go.Shelf Go.Proofs.YtidgpkccjcddgaaGreatDoorW.PrintLast
end Go.Proofs.YtidgpkccjcddgaaGreatDoor.F
/- The walks of the reference's layer 3, second part: Mul. -/
namespace Go.Proofs.YtidgpkccjcddgaaGreatDoor.F
open Go.RowKit Go.Shelf Go.Proofs.YtidgpkccjcddgaaGreatDoorW.PrintLast
end Go.Proofs.YtidgpkccjcddgaaGreatDoor.F
/- The walks of the reference's layer 3, third part: positive, Add. -/
namespace Go.Proofs.YtidgpkccjcddgaaGreatDoor.F
open Go.RowKit Go.Shelf Go.Proofs.YtidgpkccjcddgaaGreatDoorW.PrintLast
end Go.Proofs.YtidgpkccjcddgaaGreatDoor.F
/- The walks of the reference's layer 3, fourth part: Sign, Whole. -/
namespace Go.Proofs.YtidgpkccjcddgaaGreatDoor.F
open Go.RowKit Go.Shelf Go.Proofs.YtidgpkccjcddgaaGreatDoorW.PrintLast
end Go.Proofs.YtidgpkccjcddgaaGreatDoor.F

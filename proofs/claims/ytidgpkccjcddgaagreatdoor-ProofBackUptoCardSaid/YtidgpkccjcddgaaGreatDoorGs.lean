/- The reference's layer 17: zero, truth, constant. Condition: atoms of weight at most 1048576. -/
import Derived.Test.YtidgpkccjcddgaaGreatDoorGr
import Derived.BigQuiet
set_option linter.unusedVariables false
set_option linter.unusedSimpArgs false
namespace Go.Proofs.YtidgpkccjcddgaaGreatDoor.F
open Go.RowKit Go.Shelf Go.Proofs.YtidgpkccjcddgaaGreatDoorW.PrintLast
def truthA (a : AtomD) : Bool := decide (a.1.1.1.data = #[]) && (decide (a.1.1.2.length = 0) && (!a.2 && decide (a.1.2 = canD 0)))
end Go.Proofs.YtidgpkccjcddgaaGreatDoor.F

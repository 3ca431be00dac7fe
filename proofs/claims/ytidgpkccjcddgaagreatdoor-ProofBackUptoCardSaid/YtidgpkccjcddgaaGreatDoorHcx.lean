/- The closed facts of the row of ProofBack. No condition. -/
import Derived.Test.YtidgpkccjcddgaaGreatDoorCards
import Derived.Test.YtidgpkccjcddgaaGreatDoorTie
import Derived.Test.YtidgpkccjcddgaaGreatDoorProg
import Derived.Test.YtidgpkccjcddgaaGreatDoorChecked
import Derived.WalkKit
import Derived.ProofKit
import Derived.OpenShut
import Derived.ChangeOld
import Derived.JoinedCond
import Derived.Deep.DeepHandedRow
import Derived.Deep.DeepWitnessRowRef
import Derived.Lib.LaidTab
import Derived.Stop.LaidErr
set_option linter.unusedVariables false
set_option linter.unusedSimpArgs false
namespace Go.Proofs.YtidgpkccjcddgaaGreatDoor.proofBack
open Go.ChangeShapes Go.WideShapes Go.ChangeAt Go.RowKit
theorem closed : joinedFacts Tryz.pinned.checked.prog 8 Tryz.f8 (Rows.OpenSpec.upto Rows.proofBackSpec).bare Rows.proofBackUptoRow = true := by kernel_rfl
theorem inst : (Tryz.f8).isInstance Tryz.pinned.checked.prog Rows.proofBackUptoRow.origin Rows.proofBackUptoRow.targs := of_decide_eq_true (by kernel_rfl)
theorem wrap : (Tryz.f8).isWrapper Tryz.pinned.checked.prog Rows.proofBackUptoRow.wrapper Rows.proofBackUptoRow.mainSum := by unfold Func.isWrapper; first | (rw [if_pos (by decide +kernel)]; kernel_rfl) | (rw [if_neg (by decide +kernel)]; exact ⟨rfl, rfl⟩)
theorem plain (f : FuncId) (fn : Func) (hf : Tryz.pinned.checked.prog.funcNamed "fulcrum/fulcrumlaw24.ProofBack" = some f) (hfn : Tryz.pinned.checked.prog.funcs[f]? = some fn) :
 true = Tryz.pinned.checked.prog.looks [] ∧ ∀ (j : Nat) t, fn.params[j]? = some t → Tryz.pinned.checked.prog.wantsStandIn t = false := by
 obtain rfl : f = 8 := Option.some.inj ((show Tryz.prog.funcNamed "fulcrum/fulcrumlaw24.ProofBack" = some 8 by kernel_rfl).symm.trans hf) |>.symm
 obtain rfl : fn = Tryz.f8 := (Option.some.inj (Tryz.func8.symm.trans hfn)).symm
 refine ⟨by kernel_rfl, fun j t ht => ?_⟩
 rw [Tryz.params8] at ht
 have ht' := Array.mem_of_getElem? ht
 have : t = 25 := by simpa using ht'
 subst this
 exact (show Tryz.prog.wantsStandIn 25 = false by kernel_rfl)
end Go.Proofs.YtidgpkccjcddgaaGreatDoor.proofBack

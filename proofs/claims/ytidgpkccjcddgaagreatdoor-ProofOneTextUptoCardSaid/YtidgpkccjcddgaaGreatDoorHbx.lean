/- The closed facts of the row of ProofOneText. No condition. -/
import Derived.Test.YtidgpkccjcddgaaGreatDoorCards
import Derived.Test.YtidgpkccjcddgaaGreatDoorTie
import Derived.Test.YtidgpkccjcddgaaGreatDoorProg
import Derived.Test.YtidgpkccjcddgaaGreatDoorChecked
import Derived.WalkKit
import Derived.ProofKit
import Derived.OpenShut
import Derived.ChangeOld
import Derived.JoinedCond
import Derived.Deep.DeepHandedRow
import Derived.Deep.DeepWitnessRowRef
import Derived.Lib.LaidTab
import Derived.Stop.LaidErr
set_option linter.unusedVariables false
set_option linter.unusedSimpArgs false
namespace Go.Proofs.YtidgpkccjcddgaaGreatDoor.proofOneText
open Go.ChangeShapes Go.WideShapes Go.ChangeAt Go.RowKit
theorem closed : joinedFacts Tryz.pinned.checked.prog 9 Tryz.f9 (Rows.OpenSpec.upto Rows.proofOneTextSpec).bare Rows.proofOneTextUptoRow = true := by kernel_rfl
theorem inst : (Tryz.f9).isInstance Tryz.pinned.checked.prog Rows.proofOneTextUptoRow.origin Rows.proofOneTextUptoRow.targs := of_decide_eq_true (by kernel_rfl)
theorem wrap : (Tryz.f9).isWrapper Tryz.pinned.checked.prog Rows.proofOneTextUptoRow.wrapper Rows.proofOneTextUptoRow.mainSum := by unfold Func.isWrapper; first | (rw [if_pos (by decide +kernel)]; kernel_rfl) | (rw [if_neg (by decide +kernel)]; exact ⟨rfl, rfl⟩)
theorem plain (f : FuncId) (fn : Func) (hf : Tryz.pinned.checked.prog.funcNamed "fulcrum/fulcrumlaw24.ProofOneText" = some f) (hfn : Tryz.pinned.checked.prog.funcs[f]? = some fn) :
    true = Tryz.pinned.checked.prog.looks [] ∧ ∀ (j : Nat) t, fn.params[j]? = some t → Tryz.pinned.checked.prog.wantsStandIn t = false := by
  obtain rfl : f = 9 := Option.some.inj ((show Tryz.prog.funcNamed "fulcrum/fulcrumlaw24.ProofOneText" = some 9 by kernel_rfl).symm.trans hf) |>.symm
  obtain rfl : fn = Tryz.f9 := (Option.some.inj (Tryz.func9.symm.trans hfn)).symm
  refine ⟨by kernel_rfl, fun j t ht => ?_⟩
  rw [Tryz.params9] at ht
  have ht' := Array.mem_of_getElem? ht
  have : t = 9 := by simpa using ht'
  subst this
  exact (show Tryz.prog.wantsStandIn 9 = false by kernel_rfl)
end Go.Proofs.YtidgpkccjcddgaaGreatDoor.proofOneText

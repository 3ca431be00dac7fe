/- A witness world of the row of ProofPrints: the listed tables and errors lie in it. No condition. -/
import Derived.Test.YtidgpkccjcddgaaGreatDoorCards
import Derived.Test.YtidgpkccjcddgaaGreatDoorTie
import Derived.Test.YtidgpkccjcddgaaGreatDoorProg
import Derived.Test.YtidgpkccjcddgaaGreatDoorChecked
import Derived.WalkKit
import Derived.ProofKit
import Derived.OpenShut
import Derived.ChangeOld
import Derived.JoinedCond
import Derived.Deep.DeepHandedRow
import Derived.Deep.DeepWitnessRowRef
import Derived.Lib.LaidTab
import Derived.Stop.LaidErr
set_option linter.unusedVariables false
set_option linter.unusedSimpArgs false
namespace Go.Proofs.YtidgpkccjcddgaaGreatDoor.proofPrints
open Go.ChangeShapes Go.WideShapes Go.ChangeAt Go.RowKit
/-- the cells of a table -/
def row1 : DataW Unit → List Value
  | .agg l => l.map fun
    | .lit (.int k n) => Value.int k n
    | _ => undef
  | _ => []
def put (cs : List Value) : Obj → Obj
  | .cells _ t frozen => .cells cs.toArray t frozen
  | o => o
def text : DataW Unit → List Value
  | .iface _ (.ptr (.agg [.lit (.string s)])) => [.string ⟨s.toArray⟩]
  | _ => []
noncomputable def heap0 (os : Os) : Array Obj := (World.holding Tryz.prog os ⟨#[], #[], []⟩).heap
noncomputable def laidWorld (os : Os) : World :=
  { World.holding Tryz.prog os ⟨#[], #[], []⟩ with heap := ((((heap0 os).modify 5 (put (row1 Rows.laid_internal_strconv_uint64pow10))).modify 8 (put (row1 Rows.laid_math_bits_deBruijn32tab))).modify 9 (put (row1 Rows.laid_math_bits_deBruijn64tab))) }
theorem laid_met (os : Os) : laidMet Tryz.prog Rows.proofPrintsUptoRow.laid ((laidWorld os).forCall (fun _ _ => 0) ⟨#[], #[.agg #[.slice none 0 0, .slice none 0 0]], []⟩).memory :=
  laidMet_of_run' 8 (by kernel_rfl) (by kernel_rfl)
theorem witness_row (os : Os) {H : Type} (enc : TypeId × Value → H) :
    (Rows.OpenSpec.upto Rows.proofPrintsSpec).preRow enc Tryz.prog Tryz.f3 Rows.proofPrintsUptoRow.domain false Rows.proofPrintsUptoRow.laid ((laidWorld os).forCall (fun _ _ => 0) ⟨#[], #[.agg #[.slice none 0 0, .slice none 0 0]], []⟩).memory #[.agg #[.slice none 0 0, .slice none 0 0]] := by
  have hw : (DataW.whole enc Tryz.prog ((laidWorld os).forCall (fun _ _ => 0) ⟨#[], #[.agg #[.slice none 0 0, .slice none 0 0]], []⟩).memory Tryz.f3.params.toList Rows.proofPrintsSpec.vars false #[.agg #[.slice none 0 0, .slice none 0 0]].toList 8).map (fun x => (x.1, x.2.1)) =
      some ([.agg [.nil, .nil]], []) := by kernel_rfl
  obtain ⟨⟨x1, x2, x3⟩, hx, hx1⟩ := Option.map_eq_some_iff.1 hw
  simp only [Prod.mk.injEq] at hx1
  obtain ⟨rfl, rfl⟩ := hx1
  exact OpenSpec.preRow_of_cond 8 hx (by kernel_rfl) (fun k hk => by cases hk; kernel_rfl) (by kernel_rfl) (laid_met os)
end Go.Proofs.YtidgpkccjcddgaaGreatDoor.proofPrints

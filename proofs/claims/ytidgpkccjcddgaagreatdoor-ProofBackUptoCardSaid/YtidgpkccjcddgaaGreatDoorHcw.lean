/- A witness world of the row of ProofBack: the listed tables and errors lie in it. No condition. -/
import Derived.Test.YtidgpkccjcddgaaGreatDoorCards
import Derived.Test.YtidgpkccjcddgaaGreatDoorTie
import Derived.Test.YtidgpkccjcddgaaGreatDoorProg
import Derived.Test.YtidgpkccjcddgaaGreatDoorChecked
import Derived.WalkKit
import Derived.ProofKit
import Derived.OpenShut
import Derived.ChangeOld
import Derived.JoinedCond
import Derived.Deep.DeepHandedRow
import Derived.Deep.DeepWitnessRowRef
import Derived.Lib.LaidTab
import Derived.Stop.LaidErr
set_option linter.unusedVariables false
set_option linter.unusedSimpArgs false
namespace Go.Proofs.YtidgpkccjcddgaaGreatDoor.proofBack
open Go.ChangeShapes Go.WideShapes Go.ChangeAt Go.RowKit
def row1 : DataW Unit → List Value
 | .agg l => l.map fun
  | .lit (.int k n) => Value.int k n
  | _ => undef
 | _ => []
def row2 : DataW Unit → List Value
 | .agg l => l.flatMap row1
 | _ => []
def put (cs : List Value) : Obj → Obj
 | .cells _ t frozen => .cells cs.toArray t frozen
 | o => o
def text : DataW Unit → List Value
 | .iface _ (.ptr (.agg [.lit (.string s)])) => [.string ⟨s.toArray⟩]
 | _ => []
noncomputable def heap0 (os : Os) : Array Obj := (World.holding Tryz.prog os ⟨#[], #[], []⟩).heap
noncomputable def laidWorld (os : Os) : World :=
 { World.holding Tryz.prog os ⟨#[], #[], []⟩ with heap := ((((((((((heap0 os).modify 5 (put (row1 Rows.laid_internal_strconv_uint64pow10))).modify 0 (put (row1 Rows.laid_fulcrum_nat_values))).modify 6 (put (row1 Rows.laid_unicode_utf8_first))).modify 7 (put (row2 Rows.laid_unicode_utf8_acceptRanges))).modify 8 (put (row1 Rows.laid_math_bits_deBruijn32tab))).modify 9 (put (row1 Rows.laid_math_bits_deBruijn64tab))).modify 2 (put [.iface 308 (.pointer (some ⟨(heap0 os).size, 0, none⟩))])).modify 3 (put [.iface 308 (.pointer (some ⟨(heap0 os).size + 1, 0, none⟩))])).push (.cells (text Rows.laid_strconv_ErrSyntax).toArray 310 (0, 0))).push (.cells (text Rows.laid_strconv_ErrRange).toArray 310 (0, 0)) }
theorem laid_met (os : Os) : laidMet Tryz.prog Rows.proofBackUptoRow.laid ((laidWorld os).forCall (fun _ _ => 0) ⟨#[], #[.agg #[.slice none 0 0, .slice none 0 0]], []⟩).memory :=
 laidMet_of_run' 8 (by kernel_rfl) (by kernel_rfl)
theorem witness_row (os : Os) {H : Type} (enc : TypeId × Value → H) :
 (Rows.OpenSpec.upto Rows.proofBackSpec).preRow enc Tryz.prog Tryz.f8 Rows.proofBackUptoRow.domain false Rows.proofBackUptoRow.laid ((laidWorld os).forCall (fun _ _ => 0) ⟨#[], #[.agg #[.slice none 0 0, .slice none 0 0]], []⟩).memory #[.agg #[.slice none 0 0, .slice none 0 0]] := by
 have hw : (DataW.whole enc Tryz.prog ((laidWorld os).forCall (fun _ _ => 0) ⟨#[], #[.agg #[.slice none 0 0, .slice none 0 0]], []⟩).memory Tryz.f8.params.toList Rows.proofBackSpec.vars false #[.agg #[.slice none 0 0, .slice none 0 0]].toList 8).map (fun x => (x.1, x.2.1)) =
  some ([.agg [.nil, .nil]], []) := by kernel_rfl
 obtain ⟨⟨x1, x2, x3⟩, hx, hx1⟩ := Option.map_eq_some_iff.1 hw
 simp only [Prod.mk.injEq] at hx1
 obtain ⟨rfl, rfl⟩ := hx1
 exact OpenSpec.preRow_of_cond 8 hx (by kernel_rfl) (fun k hk => by cases hk; kernel_rfl) (by kernel_rfl) (laid_met os)
end Go.Proofs.YtidgpkccjcddgaaGreatDoor.proofBack

/-
  No cell of these rows narrows 'for every input' (looked for: loops, veiled, ifaces, maps, wideKeys, modest, calm, conditions, laid).
  DERIVED. THE GIVEN ROWS OF THIS SEAT. 13 by the template 'for every input the law returns true; each argument reads behind the call as it read before'; 0 by the template 'total and deterministic' (their statements: YtchdoignomidjaaTotals.lean).
  GIVEN WITH THE SEED: the statements are not yours to turn. If you find one false, say at which input.
  Laid BY PROGRAM, IN A SANDBOX (cutbox-rows.mjs): the forced cells as the released guide's own fill.sh prints them over the translation d2f6ba33014913f8… (all of the seat's roots in one cut). By AI agents, Wed Nov 11 2026. No macro, syntax, notation, axiom, sorry.
-/
import Derived.Test.YtchdoignomidjaaChecked
import GoSem.Claim
import GoSem.ClaimJoined
import GoSem.ClaimMapViews
import Derived.JoinedTies
import Derived.KernelRfl
namespace Go.Proofs.Ytchdoignomidjaa
/- THE CELL 'sum', in the pinned program and in every row, IS THE sha256 OF THE DUMP (.gsa) THAT YtchdoignomidjaaProg.lean LOADS. Nothing in Lean hashes anything: it is a label: what it is worth is what the hold of that sum in a sandbox is worth. -/
noncomputable def Try.pinned : Pinned := { name := "ytchdoignomidjaa", sum := "d2f6ba33014913f8f7e2c3809b31fb15a0671309440625a34ff29cc58bfc9a8a", checked := Try.checked }
namespace Rows
def none {H : Type} : Left H := { results := [], args := [] }

/-- 'fulcrumlaw06.LinearValues': WHATEVER THE INPUT: true; the input reads as it did. -/
def linearValuesSpec : ChangeSpec := { name := "linearValues", fn := fun _ => fun
  | [d1, d2] => { results := [.lit (.bool true)], args := [d1, d2] }
  | _ => none }
def linearValuesRow : OpenClaim := { program := "ytchdoignomidjaa", sum := "d2f6ba33014913f8f7e2c3809b31fb15a0671309440625a34ff29cc58bfc9a8a", func := "fulcrum/fulcrumlaw06.LinearValues", spec := "linearValues", named := ["math/bits.overflowError"], apart := false }
def LinearValuesSaid : Prop := linearValuesRow.holds Try.pinned (OpenSpec.ofChange linearValuesSpec)

/-- ITS FALSE NEIGHBOUR: 'it returns false'. Refute it at one input. -/
def linearValuesWrong : ChangeSpec := { name := "linearValues", fn := fun _ => fun
  | [d1, d2] => { results := [.lit (.bool false)], args := [d1, d2] }
  | _ => none }
def LinearValuesWrongFalsely : Prop := linearValuesRow.holds Try.pinned (OpenSpec.ofChange linearValuesWrong)

/-- 'fulcrumlaw06.LinearDeltas': WHATEVER THE INPUT: true; the input reads as it did. -/
def linearDeltasSpec : ChangeSpec := { name := "linearDeltas", fn := fun _ => fun
  | [d1, d2] => { results := [.lit (.bool true)], args := [d1, d2] }
  | _ => none }
def linearDeltasRow : OpenClaim := { program := "ytchdoignomidjaa", sum := "d2f6ba33014913f8f7e2c3809b31fb15a0671309440625a34ff29cc58bfc9a8a", func := "fulcrum/fulcrumlaw06.LinearDeltas", spec := "linearDeltas", named := ["math/bits.overflowError"], apart := false }
def LinearDeltasSaid : Prop := linearDeltasRow.holds Try.pinned (OpenSpec.ofChange linearDeltasSpec)

/-- ITS FALSE NEIGHBOUR: 'it returns false'. Refute it at one input. -/
def linearDeltasWrong : ChangeSpec := { name := "linearDeltas", fn := fun _ => fun
  | [d1, d2] => { results := [.lit (.bool false)], args := [d1, d2] }
  | _ => none }
def LinearDeltasWrongFalsely : Prop := linearDeltasRow.holds Try.pinned (OpenSpec.ofChange linearDeltasWrong)

/-- 'fulcrumlaw06.LinearRenames': WHATEVER THE INPUT: true; the input reads as it did. -/
def linearRenamesSpec : ChangeSpec := { name := "linearRenames", fn := fun _ => fun
  | [d1, d2] => { results := [.lit (.bool true)], args := [d1, d2] }
  | _ => none }
def linearRenamesRow : OpenClaim := { program := "ytchdoignomidjaa", sum := "d2f6ba33014913f8f7e2c3809b31fb15a0671309440625a34ff29cc58bfc9a8a", func := "fulcrum/fulcrumlaw06.LinearRenames", spec := "linearRenames", unfollowed := true, recurses := true, named := ["math/bits.overflowError"], apart := false }
def LinearRenamesSaid : Prop := linearRenamesRow.holds Try.pinned (OpenSpec.ofChange linearRenamesSpec)

/-- ITS FALSE NEIGHBOUR: 'it returns false'. Refute it at one input. -/
def linearRenamesWrong : ChangeSpec := { name := "linearRenames", fn := fun _ => fun
  | [d1, d2] => { results := [.lit (.bool false)], args := [d1, d2] }
  | _ => none }
def LinearRenamesWrongFalsely : Prop := linearRenamesRow.holds Try.pinned (OpenSpec.ofChange linearRenamesWrong)

/-- 'fulcrumlaw06.LinearScales': WHATEVER THE INPUT: true; the input reads as it did. -/
def linearScalesSpec : ChangeSpec := { name := "linearScales", fn := fun _ => fun
  | [d1, d2] => { results := [.lit (.bool true)], args := [d1, d2] }
  | _ => none }
def linearScalesRow : OpenClaim := { program := "ytchdoignomidjaa", sum := "d2f6ba33014913f8f7e2c3809b31fb15a0671309440625a34ff29cc58bfc9a8a", func := "fulcrum/fulcrumlaw06.LinearScales", spec := "linearScales", unfollowed := true, recurses := true, named := ["math/bits.overflowError"], apart := false }
def LinearScalesSaid : Prop := linearScalesRow.holds Try.pinned (OpenSpec.ofChange linearScalesSpec)

/-- ITS FALSE NEIGHBOUR: 'it returns false'. Refute it at one input. -/
def linearScalesWrong : ChangeSpec := { name := "linearScales", fn := fun _ => fun
  | [d1, d2] => { results := [.lit (.bool false)], args := [d1, d2] }
  | _ => none }
def LinearScalesWrongFalsely : Prop := linearScalesRow.holds Try.pinned (OpenSpec.ofChange linearScalesWrong)

/-- 'fulcrumlaw06.LinearModule': WHATEVER THE INPUT: true; the input reads as it did. -/
def linearModuleSpec : ChangeSpec := { name := "linearModule", fn := fun _ => fun
  | [d1, d2, d3] => { results := [.lit (.bool true)], args := [d1, d2, d3] }
  | _ => none }
def linearModuleRow : OpenClaim := { program := "ytchdoignomidjaa", sum := "d2f6ba33014913f8f7e2c3809b31fb15a0671309440625a34ff29cc58bfc9a8a", func := "fulcrum/fulcrumlaw06.LinearModule", spec := "linearModule", unfollowed := true, recurses := true, named := ["math/bits.overflowError"], apart := false }
def LinearModuleSaid : Prop := linearModuleRow.holds Try.pinned (OpenSpec.ofChange linearModuleSpec)

/-- ITS FALSE NEIGHBOUR: 'it returns false'. Refute it at one input. -/
def linearModuleWrong : ChangeSpec := { name := "linearModule", fn := fun _ => fun
  | [d1, d2, d3] => { results := [.lit (.bool false)], args := [d1, d2, d3] }
  | _ => none }
def LinearModuleWrongFalsely : Prop := linearModuleRow.holds Try.pinned (OpenSpec.ofChange linearModuleWrong)

/-- 'fulcrumlaw06.LinearOrders': WHATEVER THE INPUT: true; the input reads as it did. -/
def linearOrdersSpec : ChangeSpec := { name := "linearOrders", fn := fun _ => fun
  | [d1, d2, d3] => { results := [.lit (.bool true)], args := [d1, d2, d3] }
  | _ => none }
def linearOrdersRow : OpenClaim := { program := "ytchdoignomidjaa", sum := "d2f6ba33014913f8f7e2c3809b31fb15a0671309440625a34ff29cc58bfc9a8a", func := "fulcrum/fulcrumlaw06.LinearOrders", spec := "linearOrders", unfollowed := true, recurses := true, named := ["math/bits.overflowError"], apart := false }
def LinearOrdersSaid : Prop := linearOrdersRow.holds Try.pinned (OpenSpec.ofChange linearOrdersSpec)

/-- ITS FALSE NEIGHBOUR: 'it returns false'. Refute it at one input. -/
def linearOrdersWrong : ChangeSpec := { name := "linearOrders", fn := fun _ => fun
  | [d1, d2, d3] => { results := [.lit (.bool false)], args := [d1, d2, d3] }
  | _ => none }
def LinearOrdersWrongFalsely : Prop := linearOrdersRow.holds Try.pinned (OpenSpec.ofChange linearOrdersWrong)

/-- 'fulcrumlaw06.LinearCombines': WHATEVER THE INPUT: true; the input reads as it did. -/
def linearCombinesSpec : ChangeSpec := { name := "linearCombines", fn := fun _ => fun
  | [d] => { results := [.lit (.bool true)], args := [d] }
  | _ => none }
def linearCombinesRow : OpenClaim := { program := "ytchdoignomidjaa", sum := "d2f6ba33014913f8f7e2c3809b31fb15a0671309440625a34ff29cc58bfc9a8a", func := "fulcrum/fulcrumlaw06.LinearCombines", spec := "linearCombines", unfollowed := true, recurses := true, named := ["math/bits.overflowError"], apart := false }
def LinearCombinesSaid : Prop := linearCombinesRow.holds Try.pinned (OpenSpec.ofChange linearCombinesSpec)

/-- ITS FALSE NEIGHBOUR: 'it returns false'. Refute it at one input. -/
def linearCombinesWrong : ChangeSpec := { name := "linearCombines", fn := fun _ => fun
  | [d] => { results := [.lit (.bool false)], args := [d] }
  | _ => none }
def LinearCombinesWrongFalsely : Prop := linearCombinesRow.holds Try.pinned (OpenSpec.ofChange linearCombinesWrong)

/-- 'fulcrumlaw06.LinearReckons': WHATEVER THE INPUT: true; the input reads as it did. -/
def linearReckonsSpec : ChangeSpec := { name := "linearReckons", fn := fun _ => fun
  | [d1, d2, d3] => { results := [.lit (.bool true)], args := [d1, d2, d3] }
  | _ => none }
def linearReckonsRow : OpenClaim := { program := "ytchdoignomidjaa", sum := "d2f6ba33014913f8f7e2c3809b31fb15a0671309440625a34ff29cc58bfc9a8a", func := "fulcrum/fulcrumlaw06.LinearReckons", spec := "linearReckons", unfollowed := true, recurses := true, named := ["math/bits.overflowError"], apart := false }
def LinearReckonsSaid : Prop := linearReckonsRow.holds Try.pinned (OpenSpec.ofChange linearReckonsSpec)

/-- ITS FALSE NEIGHBOUR: 'it returns false'. Refute it at one input. -/
def linearReckonsWrong : ChangeSpec := { name := "linearReckons", fn := fun _ => fun
  | [d1, d2, d3] => { results := [.lit (.bool false)], args := [d1, d2, d3] }
  | _ => none }
def LinearReckonsWrongFalsely : Prop := linearReckonsRow.holds Try.pinned (OpenSpec.ofChange linearReckonsWrong)

/-- 'fulcrumlaw06.LinearPrimes': WHATEVER THE INPUT: true; the input reads as it did. -/
def linearPrimesSpec : ChangeSpec := { name := "linearPrimes", fn := fun _ => fun
  | [d] => { results := [.lit (.bool true)], args := [d] }
  | _ => none }
def linearPrimesRow : OpenClaim := { program := "ytchdoignomidjaa", sum := "d2f6ba33014913f8f7e2c3809b31fb15a0671309440625a34ff29cc58bfc9a8a", func := "fulcrum/fulcrumlaw06.LinearPrimes", spec := "linearPrimes", unfollowed := true, recurses := true, named := ["math/bits.overflowError"], apart := false }
def LinearPrimesSaid : Prop := linearPrimesRow.holds Try.pinned (OpenSpec.ofChange linearPrimesSpec)

/-- ITS FALSE NEIGHBOUR: 'it returns false'. Refute it at one input. -/
def linearPrimesWrong : ChangeSpec := { name := "linearPrimes", fn := fun _ => fun
  | [d] => { results := [.lit (.bool false)], args := [d] }
  | _ => none }
def LinearPrimesWrongFalsely : Prop := linearPrimesRow.holds Try.pinned (OpenSpec.ofChange linearPrimesWrong)

/-- 'fulcrumlaw06.LinearShapes': WHATEVER THE INPUT: true; the input reads as it did. -/
def linearShapesSpec : ChangeSpec := { name := "linearShapes", fn := fun _ => fun
  | [d1, d2, d3] => { results := [.lit (.bool true)], args := [d1, d2, d3] }
  | _ => none }
def linearShapesRow : OpenClaim := { program := "ytchdoignomidjaa", sum := "d2f6ba33014913f8f7e2c3809b31fb15a0671309440625a34ff29cc58bfc9a8a", func := "fulcrum/fulcrumlaw06.LinearShapes", spec := "linearShapes", unfollowed := true, recurses := true, named := ["math/bits.overflowError"], apart := false }
def LinearShapesSaid : Prop := linearShapesRow.holds Try.pinned (OpenSpec.ofChange linearShapesSpec)

/-- ITS FALSE NEIGHBOUR: 'it returns false'. Refute it at one input. -/
def linearShapesWrong : ChangeSpec := { name := "linearShapes", fn := fun _ => fun
  | [d1, d2, d3] => { results := [.lit (.bool false)], args := [d1, d2, d3] }
  | _ => none }
def LinearShapesWrongFalsely : Prop := linearShapesRow.holds Try.pinned (OpenSpec.ofChange linearShapesWrong)

/-- 'fulcrumlaw06.LinearPut': WHATEVER THE INPUT: true; the input reads as it did. -/
def linearPutSpec : ChangeSpec := { name := "linearPut", fn := fun _ => fun
  | [d] => { results := [.lit (.bool true)], args := [d] }
  | _ => none }
def linearPutRow : OpenClaim := { program := "ytchdoignomidjaa", sum := "d2f6ba33014913f8f7e2c3809b31fb15a0671309440625a34ff29cc58bfc9a8a", func := "fulcrum/fulcrumlaw06.LinearPut", spec := "linearPut", unfollowed := true, recurses := true, named := ["math/bits.overflowError"], apart := false }
def LinearPutSaid : Prop := linearPutRow.holds Try.pinned (OpenSpec.ofChange linearPutSpec)

/-- ITS FALSE NEIGHBOUR: 'it returns false'. Refute it at one input. -/
def linearPutWrong : ChangeSpec := { name := "linearPut", fn := fun _ => fun
  | [d] => { results := [.lit (.bool false)], args := [d] }
  | _ => none }
def LinearPutWrongFalsely : Prop := linearPutRow.holds Try.pinned (OpenSpec.ofChange linearPutWrong)

/-- 'fulcrumlaw06.LinearPuts': WHATEVER THE INPUT: true; the input reads as it did. -/
def linearPutsSpec : ChangeSpec := { name := "linearPuts", fn := fun _ => fun
  | [d1, d2, d3] => { results := [.lit (.bool true)], args := [d1, d2, d3] }
  | _ => none }
def linearPutsRow : OpenClaim := { program := "ytchdoignomidjaa", sum := "d2f6ba33014913f8f7e2c3809b31fb15a0671309440625a34ff29cc58bfc9a8a", func := "fulcrum/fulcrumlaw06.LinearPuts", spec := "linearPuts", unfollowed := true, recurses := true, named := ["math/bits.overflowError"], apart := false }
def LinearPutsSaid : Prop := linearPutsRow.holds Try.pinned (OpenSpec.ofChange linearPutsSpec)

/-- ITS FALSE NEIGHBOUR: 'it returns false'. Refute it at one input. -/
def linearPutsWrong : ChangeSpec := { name := "linearPuts", fn := fun _ => fun
  | [d1, d2, d3] => { results := [.lit (.bool false)], args := [d1, d2, d3] }
  | _ => none }
def LinearPutsWrongFalsely : Prop := linearPutsRow.holds Try.pinned (OpenSpec.ofChange linearPutsWrong)

/-- 'fulcrumlaw06.LinearSolves': WHATEVER THE INPUT: true; the input reads as it did. -/
def linearSolvesSpec : ChangeSpec := { name := "linearSolves", fn := fun _ => fun
  | [d1, d2] => { results := [.lit (.bool true)], args := [d1, d2] }
  | _ => none }
def linearSolvesRow : OpenClaim := { program := "ytchdoignomidjaa", sum := "d2f6ba33014913f8f7e2c3809b31fb15a0671309440625a34ff29cc58bfc9a8a", func := "fulcrum/fulcrumlaw06.LinearSolves", spec := "linearSolves", unfollowed := true, recurses := true, named := ["math/bits.overflowError"], apart := false }
def LinearSolvesSaid : Prop := linearSolvesRow.holds Try.pinned (OpenSpec.ofChange linearSolvesSpec)

/-- ITS FALSE NEIGHBOUR: 'it returns false'. Refute it at one input. -/
def linearSolvesWrong : ChangeSpec := { name := "linearSolves", fn := fun _ => fun
  | [d1, d2] => { results := [.lit (.bool false)], args := [d1, d2] }
  | _ => none }
def LinearSolvesWrongFalsely : Prop := linearSolvesRow.holds Try.pinned (OpenSpec.ofChange linearSolvesWrong)

/- THE SECOND FORM. 'bulk': how many values and letters a reading holds, each counted each time it is reached (what is shared counts as often as it is met; a slice's spare places count too). A statement '..UptoSaid' is the law's where the arguments, and the package variables that the reading takes, are together of bulk at most 1048576: NARROWER than '..Said'. Prove '..Said' where nothing that the law and all that it calls make is longer than what came in: it says more and counts as full. Else prove '..UptoSaid'. A law counts once. -/
mutual
def uptoBulk {H : Type} : DataW H → Nat
  | .lit (.string bytes) => bytes.length + 1
  | .lit _ => 1
  | .nil => 1
  | .ptr d => uptoBulk d + 1
  | .slice elems spare => uptoBulkAll elems + uptoBulkAll spare + 1
  | .agg parts => uptoBulkAll parts + 1
  | .iface _ d => uptoBulk d + 1
  | .map entries => uptoBulkEntries entries + 1
  | .held _ => 1
def uptoBulkAll {H : Type} : List (DataW H) → Nat
  | [] => 0
  | d :: r => uptoBulk d + uptoBulkAll r
def uptoBulkEntries {H : Type} : List (Lit × DataW H) → Nat
  | [] => 0
  | x :: r => uptoBulkEntry x + uptoBulkEntries r
def uptoBulkEntry {H : Type} : Lit × DataW H → Nat
  | (.string bytes, d) => bytes.length + uptoBulk d + 1
  | (_, d) => uptoBulk d + 1
 end
def uptoSmall : (H : Type) → List (DataW H) → Bool := fun _ ds => decide (uptoBulkAll ds ≤ 1048576)
def OpenSpec.upto (s : _root_.Go.ChangeSpec) : _root_.Go.OpenSpec := { _root_.Go.OpenSpec.ofChange s with cond := some uptoSmall }

/-- 'fulcrumlaw06.LinearValues', WHERE WHAT IT READS IS OF BULK AT MOST 1048576: true; the input reads as it did. -/
def linearValuesUptoRow : OpenClaim := { program := "ytchdoignomidjaa", sum := "d2f6ba33014913f8f7e2c3809b31fb15a0671309440625a34ff29cc58bfc9a8a", func := "fulcrum/fulcrumlaw06.LinearValues", spec := "linearValues", named := ["math/bits.overflowError"], apart := false, narrowed := true }
def LinearValuesUptoSaid : Prop := linearValuesUptoRow.holds Try.pinned (OpenSpec.upto linearValuesSpec)

/-- 'fulcrumlaw06.LinearDeltas', WHERE WHAT IT READS IS OF BULK AT MOST 1048576: true; the input reads as it did. -/
def linearDeltasUptoRow : OpenClaim := { program := "ytchdoignomidjaa", sum := "d2f6ba33014913f8f7e2c3809b31fb15a0671309440625a34ff29cc58bfc9a8a", func := "fulcrum/fulcrumlaw06.LinearDeltas", spec := "linearDeltas", named := ["math/bits.overflowError"], apart := false, narrowed := true }
def LinearDeltasUptoSaid : Prop := linearDeltasUptoRow.holds Try.pinned (OpenSpec.upto linearDeltasSpec)

/-- 'fulcrumlaw06.LinearRenames', WHERE WHAT IT READS IS OF BULK AT MOST 1048576: true; the input reads as it did. -/
def linearRenamesUptoRow : OpenClaim := { program := "ytchdoignomidjaa", sum := "d2f6ba33014913f8f7e2c3809b31fb15a0671309440625a34ff29cc58bfc9a8a", func := "fulcrum/fulcrumlaw06.LinearRenames", spec := "linearRenames", unfollowed := true, recurses := true, named := ["math/bits.overflowError"], apart := false, narrowed := true }
def LinearRenamesUptoSaid : Prop := linearRenamesUptoRow.holds Try.pinned (OpenSpec.upto linearRenamesSpec)

/-- 'fulcrumlaw06.LinearScales', WHERE WHAT IT READS IS OF BULK AT MOST 1048576: true; the input reads as it did. -/
def linearScalesUptoRow : OpenClaim := { program := "ytchdoignomidjaa", sum := "d2f6ba33014913f8f7e2c3809b31fb15a0671309440625a34ff29cc58bfc9a8a", func := "fulcrum/fulcrumlaw06.LinearScales", spec := "linearScales", unfollowed := true, recurses := true, named := ["math/bits.overflowError"], apart := false, narrowed := true }
def LinearScalesUptoSaid : Prop := linearScalesUptoRow.holds Try.pinned (OpenSpec.upto linearScalesSpec)

/-- 'fulcrumlaw06.LinearModule', WHERE WHAT IT READS IS OF BULK AT MOST 1048576: true; the input reads as it did. -/
def linearModuleUptoRow : OpenClaim := { program := "ytchdoignomidjaa", sum := "d2f6ba33014913f8f7e2c3809b31fb15a0671309440625a34ff29cc58bfc9a8a", func := "fulcrum/fulcrumlaw06.LinearModule", spec := "linearModule", unfollowed := true, recurses := true, named := ["math/bits.overflowError"], apart := false, narrowed := true }
def LinearModuleUptoSaid : Prop := linearModuleUptoRow.holds Try.pinned (OpenSpec.upto linearModuleSpec)

/-- 'fulcrumlaw06.LinearOrders', WHERE WHAT IT READS IS OF BULK AT MOST 1048576: true; the input reads as it did. -/
def linearOrdersUptoRow : OpenClaim := { program := "ytchdoignomidjaa", sum := "d2f6ba33014913f8f7e2c3809b31fb15a0671309440625a34ff29cc58bfc9a8a", func := "fulcrum/fulcrumlaw06.LinearOrders", spec := "linearOrders", unfollowed := true, recurses := true, named := ["math/bits.overflowError"], apart := false, narrowed := true }
def LinearOrdersUptoSaid : Prop := linearOrdersUptoRow.holds Try.pinned (OpenSpec.upto linearOrdersSpec)

/-- 'fulcrumlaw06.LinearCombines', WHERE WHAT IT READS IS OF BULK AT MOST 1048576: true; the input reads as it did. -/
def linearCombinesUptoRow : OpenClaim := { program := "ytchdoignomidjaa", sum := "d2f6ba33014913f8f7e2c3809b31fb15a0671309440625a34ff29cc58bfc9a8a", func := "fulcrum/fulcrumlaw06.LinearCombines", spec := "linearCombines", unfollowed := true, recurses := true, named := ["math/bits.overflowError"], apart := false, narrowed := true }
def LinearCombinesUptoSaid : Prop := linearCombinesUptoRow.holds Try.pinned (OpenSpec.upto linearCombinesSpec)

/-- 'fulcrumlaw06.LinearReckons', WHERE WHAT IT READS IS OF BULK AT MOST 1048576: true; the input reads as it did. -/
def linearReckonsUptoRow : OpenClaim := { program := "ytchdoignomidjaa", sum := "d2f6ba33014913f8f7e2c3809b31fb15a0671309440625a34ff29cc58bfc9a8a", func := "fulcrum/fulcrumlaw06.LinearReckons", spec := "linearReckons", unfollowed := true, recurses := true, named := ["math/bits.overflowError"], apart := false, narrowed := true }
def LinearReckonsUptoSaid : Prop := linearReckonsUptoRow.holds Try.pinned (OpenSpec.upto linearReckonsSpec)

/-- 'fulcrumlaw06.LinearPrimes', WHERE WHAT IT READS IS OF BULK AT MOST 1048576: true; the input reads as it did. -/
def linearPrimesUptoRow : OpenClaim := { program := "ytchdoignomidjaa", sum := "d2f6ba33014913f8f7e2c3809b31fb15a0671309440625a34ff29cc58bfc9a8a", func := "fulcrum/fulcrumlaw06.LinearPrimes", spec := "linearPrimes", unfollowed := true, recurses := true, named := ["math/bits.overflowError"], apart := false, narrowed := true }
def LinearPrimesUptoSaid : Prop := linearPrimesUptoRow.holds Try.pinned (OpenSpec.upto linearPrimesSpec)

/-- 'fulcrumlaw06.LinearShapes', WHERE WHAT IT READS IS OF BULK AT MOST 1048576: true; the input reads as it did. -/
def linearShapesUptoRow : OpenClaim := { program := "ytchdoignomidjaa", sum := "d2f6ba33014913f8f7e2c3809b31fb15a0671309440625a34ff29cc58bfc9a8a", func := "fulcrum/fulcrumlaw06.LinearShapes", spec := "linearShapes", unfollowed := true, recurses := true, named := ["math/bits.overflowError"], apart := false, narrowed := true }
def LinearShapesUptoSaid : Prop := linearShapesUptoRow.holds Try.pinned (OpenSpec.upto linearShapesSpec)

/-- 'fulcrumlaw06.LinearPut', WHERE WHAT IT READS IS OF BULK AT MOST 1048576: true; the input reads as it did. -/
def linearPutUptoRow : OpenClaim := { program := "ytchdoignomidjaa", sum := "d2f6ba33014913f8f7e2c3809b31fb15a0671309440625a34ff29cc58bfc9a8a", func := "fulcrum/fulcrumlaw06.LinearPut", spec := "linearPut", unfollowed := true, recurses := true, named := ["math/bits.overflowError"], apart := false, narrowed := true }
def LinearPutUptoSaid : Prop := linearPutUptoRow.holds Try.pinned (OpenSpec.upto linearPutSpec)

/-- 'fulcrumlaw06.LinearPuts', WHERE WHAT IT READS IS OF BULK AT MOST 1048576: true; the input reads as it did. -/
def linearPutsUptoRow : OpenClaim := { program := "ytchdoignomidjaa", sum := "d2f6ba33014913f8f7e2c3809b31fb15a0671309440625a34ff29cc58bfc9a8a", func := "fulcrum/fulcrumlaw06.LinearPuts", spec := "linearPuts", unfollowed := true, recurses := true, named := ["math/bits.overflowError"], apart := false, narrowed := true }
def LinearPutsUptoSaid : Prop := linearPutsUptoRow.holds Try.pinned (OpenSpec.upto linearPutsSpec)

/-- 'fulcrumlaw06.LinearSolves', WHERE WHAT IT READS IS OF BULK AT MOST 1048576: true; the input reads as it did. -/
def linearSolvesUptoRow : OpenClaim := { program := "ytchdoignomidjaa", sum := "d2f6ba33014913f8f7e2c3809b31fb15a0671309440625a34ff29cc58bfc9a8a", func := "fulcrum/fulcrumlaw06.LinearSolves", spec := "linearSolves", unfollowed := true, recurses := true, named := ["math/bits.overflowError"], apart := false, narrowed := true }
def LinearSolvesUptoSaid : Prop := linearSolvesUptoRow.holds Try.pinned (OpenSpec.upto linearSolvesSpec)

end Rows
end Go.Proofs.Ytchdoignomidjaa

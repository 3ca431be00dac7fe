/-
  No cell of these rows narrows 'for every input' (looked for: loops, veiled, ifaces, maps, wideKeys, modest, calm, conditions, laid).
  DERIVED. THE GIVEN ROWS OF THIS SEAT. 2 by the template 'for every input the law returns true; each argument reads behind the call as it read before'; 0 by the template 'total and deterministic' (their statements: YtidgpkccjcddgaaGreatTotals.lean).
  GIVEN WITH THE SEED: the statements are not yours to turn. If you find one false, say at which input.
  Laid BY PROGRAM, IN A SANDBOX (cutbox-rows.mjs): the forced cells as the released guide's own fill.sh prints them over the translation cc49e887068fd3fa… (all of the seat's roots in one cut). By AI agents, Wed Nov 11 2026. No macro, syntax, notation, axiom, sorry.
-/
import Derived.Test.YtidgpkccjcddgaaGreatChecked
import GoSem.Claim
import GoSem.ClaimJoined
import GoSem.ClaimMapViews
import Derived.JoinedTies
import Derived.KernelRfl
namespace Go.Proofs.YtidgpkccjcddgaaGreat
/- THE CELL 'sum', in the pinned program and in every row, IS THE sha256 OF THE DUMP (.gsa) THAT YtidgpkccjcddgaaGreatProg.lean LOADS. Nothing in Lean hashes anything: it is a label: what it is worth is what the hold of that sum in a sandbox is worth. -/
noncomputable def Tryz.pinned : Pinned := { name := "ytidgpkccjcddgaagreat", sum := "cc49e887068fd3fa3c4dc0cbb2faf08a14a7c82a23a732f3d744740a4a8e8dfb", checked := Tryz.checked }
namespace Rows
def none {H : Type} : Left H := { results := [], args := [] }

/-- 'fulcrumlaw24.ProofValid': WHATEVER THE INPUT: true; the input reads as it did. -/
def proofValidSpec : ChangeSpec := { name := "proofValid", fn := fun _ => fun
  | [d] => { results := [.lit (.bool true)], args := [d] }
  | _ => none }
def proofValidRow : OpenClaim := { program := "ytidgpkccjcddgaagreat", sum := "cc49e887068fd3fa3c4dc0cbb2faf08a14a7c82a23a732f3d744740a4a8e8dfb", func := "fulcrum/fulcrumlaw24.ProofValid", spec := "proofValid", unfollowed := true, recurses := true, named := ["math/bits.overflowError"], apart := false }
def ProofValidSaid : Prop := proofValidRow.holds Tryz.pinned (OpenSpec.ofChange proofValidSpec)

/-- ITS FALSE NEIGHBOUR: 'it returns false'. Refute it at one input. -/
def proofValidWrong : ChangeSpec := { name := "proofValid", fn := fun _ => fun
  | [d] => { results := [.lit (.bool false)], args := [d] }
  | _ => none }
def ProofValidWrongFalsely : Prop := proofValidRow.holds Tryz.pinned (OpenSpec.ofChange proofValidWrong)

/-- 'fulcrumlaw24.ProofTrims': WHATEVER THE INPUT: true; the input reads as it did. -/
def proofTrimsSpec : ChangeSpec := { name := "proofTrims", fn := fun _ => fun
  | [d] => { results := [.lit (.bool true)], args := [d] }
  | _ => none }
def proofTrimsRow : OpenClaim := { program := "ytidgpkccjcddgaagreat", sum := "cc49e887068fd3fa3c4dc0cbb2faf08a14a7c82a23a732f3d744740a4a8e8dfb", func := "fulcrum/fulcrumlaw24.ProofTrims", spec := "proofTrims", unfollowed := true, recurses := true, named := ["math/bits.overflowError"], apart := false }
def ProofTrimsSaid : Prop := proofTrimsRow.holds Tryz.pinned (OpenSpec.ofChange proofTrimsSpec)

/-- ITS FALSE NEIGHBOUR: 'it returns false'. Refute it at one input. -/
def proofTrimsWrong : ChangeSpec := { name := "proofTrims", fn := fun _ => fun
  | [d] => { results := [.lit (.bool false)], args := [d] }
  | _ => none }
def ProofTrimsWrongFalsely : Prop := proofTrimsRow.holds Tryz.pinned (OpenSpec.ofChange proofTrimsWrong)

/- THE SECOND FORM. 'bulk': how many values and letters a reading holds, each counted each time it is reached (what is shared counts as often as it is met; a slice's spare places count too). A statement '..UptoSaid' is the law's where the arguments, and the package variables that the reading takes, are together of bulk at most 1048576: NARROWER than '..Said'. Prove '..Said' where nothing that the law and all that it calls make is longer than what came in: it says more and counts as full. Else prove '..UptoSaid'. A law counts once. -/
mutual
def uptoBulk {H : Type} : DataW H → Nat
  | .lit (.string bytes) => bytes.length + 1
  | .lit _ => 1
  | .nil => 1
  | .ptr d => uptoBulk d + 1
  | .slice elems spare => uptoBulkAll elems + uptoBulkAll spare + 1
  | .agg parts => uptoBulkAll parts + 1
  | .iface _ d => uptoBulk d + 1
  | .map entries => uptoBulkEntries entries + 1
  | .held _ => 1
def uptoBulkAll {H : Type} : List (DataW H) → Nat
  | [] => 0
  | d :: r => uptoBulk d + uptoBulkAll r
def uptoBulkEntries {H : Type} : List (Lit × DataW H) → Nat
  | [] => 0
  | x :: r => uptoBulkEntry x + uptoBulkEntries r
def uptoBulkEntry {H : Type} : Lit × DataW H → Nat
  | (.string bytes, d) => bytes.length + uptoBulk d + 1
  | (_, d) => uptoBulk d + 1
 end
def uptoSmall : (H : Type) → List (DataW H) → Bool := fun _ ds => decide (uptoBulkAll ds ≤ 1048576)
def OpenSpec.upto (s : _root_.Go.ChangeSpec) : _root_.Go.OpenSpec := { _root_.Go.OpenSpec.ofChange s with cond := some uptoSmall }

/-- 'fulcrumlaw24.ProofValid', WHERE WHAT IT READS IS OF BULK AT MOST 1048576: true; the input reads as it did. -/
def proofValidUptoRow : OpenClaim := { program := "ytidgpkccjcddgaagreat", sum := "cc49e887068fd3fa3c4dc0cbb2faf08a14a7c82a23a732f3d744740a4a8e8dfb", func := "fulcrum/fulcrumlaw24.ProofValid", spec := "proofValid", unfollowed := true, recurses := true, named := ["math/bits.overflowError"], apart := false, narrowed := true }
def ProofValidUptoSaid : Prop := proofValidUptoRow.holds Tryz.pinned (OpenSpec.upto proofValidSpec)

/-- 'fulcrumlaw24.ProofTrims', WHERE WHAT IT READS IS OF BULK AT MOST 1048576: true; the input reads as it did. -/
def proofTrimsUptoRow : OpenClaim := { program := "ytidgpkccjcddgaagreat", sum := "cc49e887068fd3fa3c4dc0cbb2faf08a14a7c82a23a732f3d744740a4a8e8dfb", func := "fulcrum/fulcrumlaw24.ProofTrims", spec := "proofTrims", unfollowed := true, recurses := true, named := ["math/bits.overflowError"], apart := false, narrowed := true }
def ProofTrimsUptoSaid : Prop := proofTrimsUptoRow.holds Tryz.pinned (OpenSpec.upto proofTrimsSpec)

end Rows
end Go.Proofs.YtidgpkccjcddgaaGreat

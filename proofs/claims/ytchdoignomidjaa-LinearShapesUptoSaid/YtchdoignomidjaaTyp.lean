/- Which types read as which kinds; a slice argument opened; the row's helpers that all Linear laws share. -/
import Derived.Test.YtchdoignomidjaaBulk
import Derived.ProofKit
import Derived.OpenShut
import Derived.ChangeOld
import Derived.SizedLaws
import Derived.JoinedCond
set_option linter.unusedVariables false
set_option linter.unusedSimpArgs false
namespace Go.Proofs.Ytchdoignomidjaa.F
open Go.ChangeShapes Go.WideShapes Go.ChangeAt Go.RowKit Go.Shelf

theorem prog_own : ownKnob Try.prog.godebug = none := by kernel_rfl
theorem prog_laid : laidOutB Try.prog = true := by kernel_rfl
theorem opens_Nat : Opens Try.prog 27 (Knd.int .u32).slice okNat := opens_slice Try.underlying27 (by kernel_rfl) (opens_int Try.underlying96)
theorem opens_Int : Opens Try.prog 29 (Knd.bool.pair (Knd.int .u32).slice) (okPair okBool okNat) := opens_pair Try.underlying29 (by kernel_rfl) rfl rfl (by kernel_rfl) (by kernel_rfl) (opens_bool Try.underlying4) opens_Nat
theorem opens_Rat : Opens Try.prog 31 kRat okRat := opens_pair Try.underlying31 (by kernel_rfl) rfl rfl (by kernel_rfl) (by kernel_rfl) opens_Int opens_Nat
theorem opens_Mono : Opens Try.prog 75 kMono okMono := opens_pair Try.underlying75 (by kernel_rfl) rfl rfl (by kernel_rfl) (by kernel_rfl) (opens_int Try.underlying3) opens_Rat
theorem opens_Form : Opens Try.prog 23 kMono.slice okForm := opens_slice Try.underlying23 (by kernel_rfl) opens_Mono
theorem opens_Rats : Opens Try.prog 24 kRat.slice (okSlice okRat) := opens_slice Try.underlying24 (by kernel_rfl) opens_Rat

/-- a product that a sum bounds -/
theorem prod_le {n V : Nat} (h : 7 * n + V ≤ 1048576) : n * V ≤ 137000000000 := by
  by_cases hn : n ≤ 65536
  · exact Nat.le_trans (Nat.mul_le_mul hn (show V ≤ 1048576 by omega)) (by omega)
  · exact Nat.le_trans (Nat.mul_le_mul (show n ≤ 149797 by omega) (show V ≤ 589824 by omega)) (by omega)
theorem sum_le_mul {α : Type} {g : α → Nat} {b : Nat} (xs : List α) (h : ∀ x ∈ xs, g x ≤ b) : (xs.map g).sum ≤ xs.length * b := by
  induction xs with
  | nil => simp
  | cons x xs ih =>
    have := ih fun y hy => h y (List.mem_cons_of_mem _ hy)
    have := h x (List.mem_cons_self ..)
    simp only [List.map_cons, List.sum_cons, List.length_cons, Nat.succ_mul]
    omega
theorem len_le_sum {α : Type} {g : α → Nat} {b : Nat} (xs : List α) (h : ∀ x ∈ xs, b ≤ g x) : xs.length * b ≤ (xs.map g).sum := by
  induction xs with
  | nil => simp
  | cons x xs ih =>
    have := ih fun y hy => h y (List.mem_cons_of_mem _ hy)
    have := h x (List.mem_cons_self ..)
    simp only [List.map_cons, List.sum_cons, List.length_cons, Nat.succ_mul]
    omega
theorem okWide_slice_args {P : Program} : True := trivial
end Go.Proofs.Ytchdoignomidjaa.F

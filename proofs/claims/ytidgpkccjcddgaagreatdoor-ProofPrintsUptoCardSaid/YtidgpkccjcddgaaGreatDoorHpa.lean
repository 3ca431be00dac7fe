/- The law ProofPrints. Condition: refutations of weight at most 1048576; the table of powers lies as laid. -/
import Derived.Test.YtidgpkccjcddgaaGreatDoorGz
set_option linter.unusedVariables false
set_option linter.unusedSimpArgs false
namespace Go.Proofs.YtidgpkccjcddgaaGreatDoor.F
open Go.RowKit Go.Shelf Go.Proofs.YtidgpkccjcddgaaGreatDoorW.PrintLast
set_option maxHeartbeats 2000000 in
set_option maxRecDepth 100000 in
theorem law_PPrints (r : RefD) (A : Option Addr) (c : Nat) (B : Option Addr) (d : Nat) (w : World) (h : RefIn w r A c B d) (ht : PowTab w) :
    Calls Tryz.prog 3 #[.agg #[.slice A r.1.length c, .slice B r.2.length d]] w (Decides w true) := by
  have h1 := Lib.hid (fun (W : World) (hb : Below w.heap.size w W) => pr_Print r A c B d W (h.below hb) (ht.below hb))
  have h2 := Lib.hid (fun (W : World) (hb : Below w.heap.size w W) => r24_Print r A c B d W (h.below hb))
  clear h ht
  generalize prS r = ps at *
  generalize vldE r = ve at *
  generalize r.1.length = n1 at *
  generalize r.2.length = n2 at *
  generalize (⟨ps.toArray⟩ : ByteArray) = S at *
  have HF := Lib.hid ((Fr.refl w).box [.slice A n1 c, .slice B n2 d] 25)
  simp only [List.toArray] at HF
  go_enter Tryz.func3, Tryz.ntmps3
  go_upto_region 1 with fail
  generalize hgt : World.alloc _ _ = W at HF ⊢
  clear hgt
  have a0 := HF.out.cellN 0 rfl 0 rfl
  have a1 := HF.out.cellN 0 rfl 1 rfl
  go_wp2_with fail
  refine (h1.out _ HF.out.bel).mono ?_
  rintro e' W1 ⟨rfl, hb⟩
  replace HF := Lib.hid (HF.out.below hb)
  clear hb h1 a0 a1
  have a0 := HF.out.cellN 0 rfl 0 rfl
  have a1 := HF.out.cellN 0 rfl 1 rfl
  go_wp2_with fail
  refine (h2.out _ HF.out.bel).mono ?_
  rintro e' W2 ⟨rfl, hb⟩
  replace HF := Lib.hid (HF.out.below hb)
  clear hb h2 a0 a1
  go_wp2
  go_ret
  exact ⟨rfl, HF.out.bel⟩
end Go.Proofs.YtidgpkccjcddgaaGreatDoor.F

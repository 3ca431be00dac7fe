/- The law LinearTexts: texts of any form, and read of any text. Condition: a form of weight at most 1048576, a text of at most 1048576 bytes; the tables lie in blocks 0 to 3. -/
import Derived.Test.YtidgpkccjcddgaaGreatDoorHtc
import Derived.Test.YtidgpkccjcddgaaGreatDoorHba
set_option linter.unusedVariables false
set_option linter.unusedSimpArgs false
namespace Go.Proofs.YtidgpkccjcddgaaGreatDoor.F
open Go.RowKit Go.Shelf Go.Proofs.YtidgpkccjcddgaaGreatDoorW.PrintLast

set_option maxHeartbeats 2000000 in
set_option maxRecDepth 100000 in
theorem law_LTexts (A : Option Addr) (c : Nat) (f : List (Int × RatD)) (s : List UInt8) (w : World) (hf : FRaw w A c f) (hv : ∀ m ∈ f, inr m.1) (hm : (f.map wtm).sum ≤ 1048576) (hs : s.length ≤ 1048576) (hL : Laid w) :
    Calls Tryz.prog 4 #[.slice A f.length c, .string ⟨s.toArray⟩] w fun e w' => e = .returned (.bool true) ∧ Below w.heap.size w w' := by
  have HC := Lib.hid (CanF.of (fval_var hv))
  have hmf : mf (nform (fval f)) ≤ 1048576 := Nat.le_trans (mf_nform _) (Nat.le_trans (mf_fval hf.good) hm)
  have HT1 := Lib.hid (fun (W : World) (k : Below w.heap.size w W) => linear_Text A c f W (hf.below k) (TxOk.of HC.out.var (by omega)))
  have HT2 := Lib.hid (fun (W : World) (k : Below w.heap.size w W) => r6_Text A c f W (hf.below k) (TxOk.of HC.out.var (by omega)))
  generalize nform (fval f) = l at *
  have HP1 := Lib.hid (linear_Parse s w (by omega) hL)
  have HP2 := Lib.hid (fun (W : World) => r6_Parse s W (by omega))
  clear hf hv hm hL
  have hss : (tf l == tf l) = true := by simp
  go_enter Tryz.func4, Tryz.ntmps4
  go_wp2_with fail
  refine HP1.out.mono ?_
  rintro e W1 (⟨m, A1, c1, rfl, h1, h2, h3, h4, h5⟩ | ⟨rfl, h5, h⟩)
  · have HB := Lib.hid h5
    have HI := Lib.hid h1
    have HTT := Lib.hid (And.intro h2 h3)
    have hml := mf_len' m
    clear h1 h2 h3 h5 HP1
    go_wp2_with fail
    refine (HP2.out _).mono ?_
    rintro e W2 (⟨n, A2, c2, rfl, k1, k2, k3, k4, k5⟩ | ⟨rfl, k5, k⟩)
    · have hmn : m = n := tf_inj (HTT.out.2.symm.trans k3)
      subst hmn
      have HS := Lib.hid (same_FormB A1 c1 A2 c2 m m W2 (HI.out.below k5) k1 (by omega) (by omega))
      rw [decide_eq_true (rfl : m = m)] at HS
      replace HB := Lib.hid (HB.out.trans (k5.mono HB.out.size))
      clear k1 k2 k3 k4 k5 HP2 HI HTT
      go_wp2_with fail
      refine HS.out.mono ?_
      rintro e W3 ⟨rfl, q1⟩
      replace HB := Lib.hid (HB.out.trans (q1.mono HB.out.size))
      clear q1 HS
      go_wp2_with fail
      refine (HT1.out _ HB.out).mono ?_
      rintro e W4 ⟨rfl, q1⟩
      replace HB := Lib.hid (HB.out.trans (q1.mono HB.out.size))
      clear q1 HT1
      go_wp2_with fail
      refine (HT2.out _ HB.out).mono ?_
      rintro e W5 ⟨rfl, q1⟩
      replace HB := Lib.hid (HB.out.trans (q1.mono HB.out.size))
      clear q1 HT2
      go_wp2
      go_ret
      exact ⟨rfl, HB.out⟩
    · exact absurd HTT.out.2 (k m HTT.out.1)
  · have HB := Lib.hid h5
    have HNo := Lib.hid h
    clear h5 h HP1
    go_wp2_with fail
    refine (HP2.out _).mono ?_
    rintro e W2 (⟨n, A2, c2, rfl, k1, k2, k3, k4, k5⟩ | ⟨rfl, k5, k⟩)
    · exact absurd k3 (HNo.out n k2)
    · have HS := Lib.hid (same_FormB none 0 none 0 [] [] W2 (FIn.nil _ _ _) (FIn.nil _ _ _) (by simp) (by simp))
      rw [decide_eq_true (rfl : ([] : Frm) = [])] at HS
      replace HB := Lib.hid (HB.out.trans (k5.mono HB.out.size))
      clear k5 k HP2 HNo
      go_wp2_with fail
      refine HS.out.mono ?_
      rintro e W3 ⟨rfl, q1⟩
      replace HB := Lib.hid (HB.out.trans (q1.mono HB.out.size))
      clear q1 HS
      go_wp2_with fail
      refine (HT1.out _ HB.out).mono ?_
      rintro e W4 ⟨rfl, q1⟩
      replace HB := Lib.hid (HB.out.trans (q1.mono HB.out.size))
      clear q1 HT1
      go_wp2_with fail
      refine (HT2.out _ HB.out).mono ?_
      rintro e W5 ⟨rfl, q1⟩
      replace HB := Lib.hid (HB.out.trans (q1.mono HB.out.size))
      clear q1 HT2
      go_wp2
      go_ret
      exact ⟨rfl, HB.out⟩
end Go.Proofs.YtidgpkccjcddgaaGreatDoor.F

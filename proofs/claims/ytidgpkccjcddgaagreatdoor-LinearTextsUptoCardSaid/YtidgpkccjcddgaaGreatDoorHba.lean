/- The law LinearBack: linear.Parse brings back what Text wrote; what is read is written so. Condition: a form of weight at most 1048576, a text of at most 1048576 bytes; the tables lie in blocks 0 to 3. -/
import Derived.Test.YtidgpkccjcddgaaGreatDoorGq
set_option linter.unusedVariables false
set_option linter.unusedSimpArgs false
namespace Go.Proofs.YtidgpkccjcddgaaGreatDoor.F
open Go.RowKit Go.Shelf Go.Proofs.YtidgpkccjcddgaaGreatDoorW.PrintLast

theorem parse_canon {w w' : World} {l : Frm} {e : Ending} (h : ToldPF w (tf l) e w') (hc : CanF l) : ∃ (A : Option Addr) (c : Nat), e = .returned (.tuple #[.slice A l.length c, .int .i64 0]) ∧ FIn w' A c l ∧ Below w.heap.size w w' := by
  rcases h with ⟨m, A, c, rfl, h1, h2, h3, h4, h5⟩ | ⟨_, _, h⟩
  · obtain rfl := tf_inj h3
    exact ⟨A, c, rfl, h1, h5⟩
  · exact absurd rfl (h l hc)
theorem fval_var {f : List (Int × RatD)} (hv : ∀ m ∈ f, inr m.1) : ∀ m ∈ fval f, inr m.1 := fun m hm => by
  obtain ⟨x, hx, rfl⟩ := List.mem_map.1 hm
  exact hv x hx
set_option maxHeartbeats 2000000 in
set_option maxRecDepth 100000 in
theorem law_LBack (A : Option Addr) (c : Nat) (f : List (Int × RatD)) (s : List UInt8) (w : World) (hf : FRaw w A c f) (hv : ∀ m ∈ f, inr m.1) (hm : (f.map wtm).sum ≤ 1048576) (hs : s.length ≤ 1048576) (hL : Laid w) :
    Calls Tryz.prog 5 #[.slice A f.length c, .string ⟨s.toArray⟩] w fun e w' => e = .returned (.bool true) ∧ Below w.heap.size w w' := by
  have HC := Lib.hid (CanF.of (fval_var hv))
  have hmf : mf (nform (fval f)) ≤ 1048576 := Nat.le_trans (mf_nform _) (Nat.le_trans (mf_fval hf.good) hm)
  have HT := Lib.hid (linear_Text A c f w hf (TxOk.of HC.out.var (by omega)))
  have HN := Lib.hid (fun (W : World) (k : Below w.heap.size w W) => linear_Norm f.length A c f W (Nat.le_refl _) (hf.below k))
  have hlen := tf_len HC.out.var
  have hl0 := mf_len' (nform (fval f))
  generalize nform (fval f) = l at *
  have HP1 := Lib.hid (fun (W : World) (k : Laid W) => linear_Parse (tf l) W (by omega) k)
  have HP2 := Lib.hid (fun (W : World) (k : Laid W) => linear_Parse s W (by omega) k)
  have HL := Lib.hid hL
  clear hf hv hm hL hlen
  go_enter Tryz.func5, Tryz.ntmps5
  go_wp2_with fail
  refine HT.out.mono ?_
  rintro e W1 ⟨rfl, q1⟩
  replace HL := Lib.hid (HL.out.below q1)
  have HB := Lib.hid q1
  clear q1 HT
  go_wp2_with fail
  refine (HP1.out _ HL.out).mono ?_
  rintro e W2 h
  obtain ⟨A2, c2, rfl, h1, h2⟩ := parse_canon h HC.out
  have HI := Lib.hid h1
  replace HL := Lib.hid (HL.out.below h2)
  replace HB := Lib.hid (HB.out.trans (h2.mono HB.out.size))
  clear h h1 h2 HP1
  go_wp2_with fail
  refine (HN.out _ HB.out).mono ?_
  rintro e W3 ⟨v3, rfl, h1, h2⟩
  obtain ⟨E3, j3, rfl, k3⟩ := h1.fin
  have HS := Lib.hid (same_FormB A2 c2 E3 j3 l l W3 (HI.out.below h2) k3 (by omega) (by omega))
  rw [decide_eq_true (rfl : l = l)] at HS
  replace HL := Lib.hid (HL.out.below h2)
  replace HB := Lib.hid (HB.out.trans (h2.mono HB.out.size))
  clear h1 h2 k3 HN HI
  go_wp2_with fail
  refine HS.out.mono ?_
  rintro e W4 ⟨rfl, q1⟩
  replace HL := Lib.hid (HL.out.below q1)
  replace HB := Lib.hid (HB.out.trans (q1.mono HB.out.size))
  clear q1 HS
  go_wp2_with fail
  refine (HP2.out _ HL.out).mono ?_
  rintro e W5 (⟨m, A5, c5, rfl, h1, h2, h3, h4, h5⟩ | ⟨rfl, h5, h⟩)
  · have HT2 := Lib.hid (textC A5 c5 m W5 h1 h2 (by omega))
    rw [← h3] at HT2
    replace HB := Lib.hid (HB.out.trans (h5.mono HB.out.size))
    clear h1 h2 h3 h4 h5 HP2 HL
    go_wp2_with fail
    refine HT2.out.mono ?_
    rintro e W6 ⟨rfl, q1⟩
    replace HB := Lib.hid (HB.out.trans (q1.mono HB.out.size))
    have hss : (s == s) = true := by simp
    clear q1 HT2
    go_wp2
    go_ret
    exact ⟨rfl, HB.out⟩
  · replace HB := Lib.hid (HB.out.trans (h5.mono HB.out.size))
    clear h5 h HP2 HL
    go_wp2
    go_ret
    exact ⟨rfl, HB.out⟩
end Go.Proofs.YtidgpkccjcddgaaGreatDoor.F

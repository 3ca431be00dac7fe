/- The row and the card of ProofBack. Condition: refutations of bulk at most 1048576, as the row's bound says. -/
import Derived.Test.YtidgpkccjcddgaaGreatDoorHao
import Derived.Test.YtidgpkccjcddgaaGreatDoorHae
import Derived.Test.YtidgpkccjcddgaaGreatDoorHcx
import Derived.Test.YtidgpkccjcddgaaGreatDoorHcw
import Derived.Test.YtidgpkccjcddgaaGreatDoorGi
import Derived.Test.YtidgpkccjcddgaaGreatDoorCards
import Derived.Test.YtidgpkccjcddgaaGreatDoorTie
import Derived.WalkKit
import Derived.ProofKit
import Derived.OpenShut
import Derived.ChangeOld
import Derived.Deep.DeepHandedRow
import Derived.Deep.DeepWitnessRowRef
import Derived.Lib.LaidTab
import Derived.Stop.LaidErr
set_option linter.unusedVariables false
set_option linter.unusedSimpArgs false
namespace Go.Proofs.YtidgpkccjcddgaaGreatDoor.proofBack
open Go.ChangeShapes Go.WideShapes Go.ChangeAt Go.RowKit
open Go.Proofs.YtidgpkccjcddgaaGreatDoor.F
def vals : List Int := [0, 1, 2, 3, 4, 5, 6, 7, 8, 9, 99, 99, 99, 99, 99, 99, 99, 99, 99, 99, 99, 99, 99, 99, 99, 99, 99, 99, 99, 99, 99, 99, 99, 99, 99, 99, 99, 99, 99, 99, 99, 99, 99, 99, 99, 99, 99, 99, 99, 10, 11, 12, 13, 14, 15]
theorem vals_tv : ∀ i : Fin 55, vals.getD i.val 0 = tv i.val := by decide +kernel
theorem gTab : Tryz.prog.globalNamed "fulcrum/nat.values" = some 0 := by kernel_rfl
theorem gTabType : (Tryz.prog.globals[0]?).map (·.type) = some 260 := by kernel_rfl
theorem cellsT : Tryz.prog.cellsOf 260 = 55 := by kernel_rfl
theorem cellsE : Tryz.prog.cellsOf 133 = 1 := by kernel_rfl
theorem under55 : Tryz.prog.underlying 260 = some (.array 55 133) := by kernel_rfl
theorem under32 : Tryz.prog.underlying 133 = some (.int .u32) := by kernel_rfl
theorem table {W : World} (h : laidMetH Tryz.prog Rows.proofBackUptoRow.laid W) : Tab W := by
 have h1 : Lib.TabIs Tryz.prog W "fulcrum/nat.values" .u32 vals :=
  Lib.tabIs_of_head gTab gTabType under55 under32 cellsE cellsT (laidMet.tail (laidMet.tail (show laidMet Tryz.prog Rows.proofBackUptoRow.laid W from h)))
 intro i hi
 have := Lib.TabIs.cell h1 gTab i hi
 rw [vals_tv ⟨i, hi⟩] at this
 exact this
theorem gRange : Tryz.prog.globalNamed "strconv.ErrRange" = some 3 := by kernel_rfl
theorem gSyntax : Tryz.prog.globalNamed "strconv.ErrSyntax" = some 2 := by kernel_rfl
theorem laid_of {W : World} (h : laidMetH Tryz.prog Rows.proofBackUptoRow.laid W) (hSh : W.ShapedOpen Tryz.prog) : Laid W := by
 have h5 : laidMet Tryz.prog (("strconv.ErrRange", Rows.laid_strconv_ErrRange) :: ("strconv.ErrSyntax", Rows.laid_strconv_ErrSyntax) :: [("unicode/utf8.first", Rows.laid_unicode_utf8_first)]) W :=
  laidMet.tail (laidMet.tail (laidMet.tail (laidMet.tail (laidMet.tail (show laidMet Tryz.prog Rows.proofBackUptoRow.laid W from h)))))
 refine ⟨table h, maxLen_is W hSh, ?_, ?_⟩
 · exact err_cell (laidMet.tail h5) gSyntax (by kernel_rfl)
 · exact err_cell h5 gRange (by kernel_rfl)
theorem gPow : Tryz.prog.globalNamed "internal/strconv.uint64pow10" = some 5 := by kernel_rfl
theorem gPowType : (Tryz.prog.globals[5]?).map (·.type) = some 299 := by kernel_rfl
theorem cellsP : Tryz.prog.cellsOf 299 = 20 := by kernel_rfl
theorem cellsPe : Tryz.prog.cellsOf 187 = 1 := by kernel_rfl
theorem under20 : Tryz.prog.underlying 299 = some (.array 20 187) := by kernel_rfl
theorem under64 : Tryz.prog.underlying 187 = some (.int .u64) := by kernel_rfl
theorem pow_of {W : World} (h : laidMetH Tryz.prog Rows.proofBackUptoRow.laid W) : PowTab W :=
 Lib.tabIs_of_head gPow gPowType under20 under64 cellsPe cellsP (laidMet.tail (laidMet.tail (laidMet.tail (show laidMet Tryz.prog Rows.proofBackUptoRow.laid W from h))))
set_option maxRecDepth 100000 in
theorem contract (H : Type) (enc : TypeId × Value → H) (W : World) (base : Nat) (args : Array Value) (ds gs : List (DataW H)) (before : List MemPlace)
 (hval : ∀ (j : Nat) t v, Tryz.f8.params[j]? = some t → args[j]? = some v → Value.okWide Tryz.prog W .any base t v)
 (hW : DataW.Whole enc Tryz.prog Tryz.f8.params.toList Rows.proofBackSpec.vars false W args.toList ds gs before) (hk : Rows.uptoSmall H (ds ++ gs) = true)
 (hL : laidMetH Tryz.prog Rows.proofBackUptoRow.laid W) (hSh : W.ShapedOpen Tryz.prog) :
 Calls Tryz.prog 8 args W fun e W' => ∃ v, e = .returned v ∧ Rows.proofBackSpec.post enc Tryz.prog Tryz.f8 false true false false W args v W' := by
 have hW' := hW
 obtain ⟨p, q, hA0, hV, rfl, hfz, hnd⟩ := hW'
 have hA : DataW.TrodAll enc Tryz.prog W 0 (fun _ => true) true Tryz.f8.params.toList args.toList ds p := hA0
 rw [Tryz.params8] at hA hval
 obtain ⟨v0, vs0, d0, ds0, p0, q0, hargs, rfl, rfl, h0, r0⟩ := trodAll_cons hA
 obtain ⟨rfl, rfl, rfl⟩ := trodAll_nil r0
 obtain rfl : args = #[v0] := by cases args; simp_all
 obtain ⟨rfl, rfl⟩ := trodVars_none hV
 obtain ⟨cs0, rfl, hz0⟩ := okWide_struct Tryz.underlying25 (hval 0 25 v0 rfl rfl)
 have k0 := h0
 have lt0 : ∀ x ∈ p0, x.block < W.heap.size := by obtain ⟨m, hm⟩ := k0; exact DataW.trod_lt m _ _ _ hm
 obtain ⟨m0, g0⟩ := h0
 obtain ⟨r, hC0, ok0⟩ := opens_Refutation H enc W m0 _ _ g0
 have hb : Rows.uptoBulkAll (H := H) [d0] ≤ 1048576 := by
  have h2 := of_decide_eq_true hk
  simpa only [List.append_nil] using h2
 simp only [Rows.uptoBulkAll] at hb
 have hLd := laid_of hL hSh
 have hPw := pow_of hL
 obtain ⟨A0, c0, B0, d0', e0, hR⟩ := refIn_of hC0 ok0 (by simpa [Rows.uptoBulkAll] using hb)
 simp only [Value.cells] at e0
 obtain rfl : cs0 = #[.slice A0 r.1.length c0, .slice B0 r.2.length d0'] := by cases cs0; simp_all
 have hw0 := wt_ref ok0
 dsimp only at hw0
 have hb0 : Rows.uptoBulk d0 ≤ 1048576 := by simpa [Rows.uptoBulkAll] using hb
 have hlaw := law_PBack r A0 c0 B0 d0' W hR (by omega) hLd hPw
 refine hlaw.mono fun e W' ⟨he, bel⟩ => ?_
 subst he
 exact ⟨_, rfl, _, _, _, [], _, [], hW, trodAll_mk1 (shut_bool Tryz.underlying4 _), (trodAll_cons_mk (Below.trod prog_laid (by kernel_rfl) (of_decide_eq_true (by kernel_rfl)) k0 bel lt0) trodAll_mk0), rfl, bel.frame _, fun h => by cases h⟩
set_option maxRecDepth 100000 in
theorem lifted (os : Os) (started : os.Started) (H : Type) (enc : TypeId × Value → H) (F : Stop.Interp) :
 ReturnsInHanded {} Tryz.checked os 8 .any ((Rows.OpenSpec.upto Rows.proofBackSpec).preRow enc Tryz.prog Tryz.f8 Rows.proofBackUptoRow.domain false Rows.proofBackUptoRow.laid) (((Rows.OpenSpec.upto Rows.proofBackSpec).at F).post enc Tryz.prog Tryz.f8 false true false false) := by
 refine returnsInHanded_of_row (C := Tryz.checked) (s := Rows.OpenSpec.upto Rows.proofBackSpec) prog_own started (by kernel_rfl) Tryz.func8
  (witness_row_atRef (enc := enc) (C := Tryz.checked) false (laidWorld os) #[.agg #[.slice none 0 0, .slice none 0 0]] rfl (by kernel_rfl) (by kernel_rfl) (by kernel_rfl) (witness_row os enc)) ?_
 intro W base args ds gs before hval hW _ hcond _ hL hSh _
 exact contract H enc W base args ds gs before hval hW (hcond _ rfl) hL hSh
theorem saidUpto : Rows.ProofBackUptoSaid :=
 OpenClaim.holds_of_cond 8 Tryz.f8 rfl rfl rfl rfl rfl rfl rfl ⟨rfl, rfl, rfl, rfl, rfl⟩ rfl rfl rfl rfl rfl (by kernel_rfl) Tryz.func8 closed
  inst wrap
  (fun os started H enc _ F => by rw [OpenClaim.pre_eq_preRow]; exact lifted os started H enc F)
theorem card : Rows.ProofBackUptoCardSaid :=
 Claim7.holds_tied_plain_at .later [] _ _ _ _ saidUpto (fun _ h => by cases h) (by kernel_rfl) (fun _ h => by cases h) proofBackUpto_row_tie rfl ⟨rfl, rfl⟩ (by kernel_rfl) rfl plain (by kernel_rfl)
end Go.Proofs.YtidgpkccjcddgaaGreatDoor.proofBack
namespace Go.Proofs.YtidgpkccjcddgaaGreatDoor
theorem proofBack_holds : Rows.ProofBackUptoCardSaid := proofBack.card
#print axioms proofBack_holds
end Go.Proofs.YtidgpkccjcddgaaGreatDoor

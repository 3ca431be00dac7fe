/- LinearRenames: for every form and every list of new names of bulk at most 1048576, linear.Rename tells what the reference tells; the arguments read as they did. -/
import Derived.Test.YtchdoignomidjaaRen
set_option linter.unusedVariables false
set_option linter.unusedSimpArgs false
namespace Go.Proofs.Ytchdoignomidjaa.F
open Go.RowKit Go.Shelf Go.Proofs.YtchdoignomidjaaW.PrintLast

theorem opens_Ints : Opens Try.prog 40 (Knd.int .i64).slice (okSlice (okInt .i64)) := opens_slice Try.underlying40 (by kernel_rfl) (opens_int Try.underlying3)
theorem FRaw.of {w : World} {A : Option Addr} {c : Nat} {f : List (Int × RatD)} (h : kMono.Row w A f) (hc : f.length ≤ c) (hf : ∀ m ∈ f, Good (wt m.2) m.2) (hb : (f.map wtm).sum ≤ 1048576) : FRaw w A c f := ⟨h, hc, hf, by omega⟩

set_option maxHeartbeats 2000000 in
set_option maxRecDepth 100000 in
theorem law_Renames (A : Option Addr) (c : Nat) (f : List (Int × RatD)) (B : Option Addr) (d : Nat) (tn : List Int) (w : World) (hr : kMono.Row w A f) (hc : f.length ≤ c) (ht : (Knd.int .i64).Row w B tn) (hd : tn.length ≤ d) (hd2 : tn.length ≤ 9223372036854775807)
    (hf : ∀ m ∈ f, Good (wt m.2) m.2) (hb : (f.map wtm).sum ≤ 1048576) :
    Calls Try.prog 5 #[.slice A f.length c, .slice B tn.length d] w fun e w' => e = .returned (.bool true) ∧ Below w.heap.size w w' := by
  have hlf : f.length * 7 ≤ (f.map wtm).sum := len_le_sum f fun m _ => wtm7 m
  have hmf := mf_fval hf
  have hR : FRaw w A c f := FRaw.of hr hc hf hb
  have hL := Lib.hid (linear_Rename A c f B d tn w hR ht hd hd2 (by omega))
  have hS := Lib.hid (fun (W : World) (hb : Below w.heap.size w W) => r6_Rename A c f B d tn W (hR.below hb) (ht.below hb) hd hd2 (by omega))
  have hlen : (if (nform (fval f)).all (inr tn.length) then nform (ren tn (nform (fval f))) else []).length ≤ f.length := by
    have h1 := nform_len (fval f)
    rw [fval_length] at h1
    have h2 := nform_len (ren tn (nform (fval f)))
    rw [ren_length] at h2
    split
    · omega
    · exact Nat.zero_le _
  unfold ToldRn at hL hS
  clear hr ht hf hR hmf
  generalize (if (nform (fval f)).all (inr tn.length) then nform (ren tn (nform (fval f))) else []) = l at *
  generalize (if (nform (fval f)).all (inr tn.length) then (0 : Int) else 61) = z at *
  go_enter Try.func5, Try.ntmps5
  go_wp2_with fail
  refine hL.out.mono ?_
  rintro e W1 ⟨v, rfl, h1, h2⟩
  obtain ⟨A1, c1, rfl, h3⟩ := h1.fin
  have Q1 := Lib.hid h3
  have HB := Lib.hid h2
  clear h1 h2 h3 hL
  go_wp2_with fail
  refine (hS.out W1 HB.out).mono ?_
  rintro e W2 ⟨v, rfl, h1, h2⟩
  obtain ⟨A2, c2, rfl, h3⟩ := h1.fin
  have Q2 := Lib.hid h3
  replace Q1 := Lib.hid (Q1.out.below h2)
  replace HB := Lib.hid (HB.out.trans (h2.mono HB.out.size))
  clear h1 h2 h3 hS
  have hF := Lib.hid (same_FormB A1 c1 A2 c2 l l W2 Q1.out Q2.out (by omega) (by omega))
  rw [decide_eq_true (rfl : l = l)] at hF
  go_wp2_with fail
  refine hF.out.mono ?_
  rintro e W3 ⟨rfl, h2⟩
  replace HB := Lib.hid (HB.out.trans (h2.mono HB.out.size))
  clear h2 hF
  go_wp2
  go_ret
  exact ⟨rfl, HB.out⟩
end Go.Proofs.Ytchdoignomidjaa.F
namespace Go.Proofs.Ytchdoignomidjaa.renames
open Go.ChangeShapes Go.WideShapes Go.ChangeAt Go.RowKit
open Go.Proofs.Ytchdoignomidjaa.F

set_option maxRecDepth 100000 in
theorem contract (H : Type) (enc : TypeId × Value → H) (W : World) (base : Nat) (args : Array Value) (ds gs : List (DataW H)) (before : List MemPlace)
    (hval : ∀ (j : Nat) t v, Try.f5.params[j]? = some t → args[j]? = some v → Value.okWide Try.prog W .any base t v)
    (hW : DataW.Whole enc Try.prog Try.f5.params.toList Rows.linearRenamesSpec.vars false W args.toList ds gs before) (hk : Rows.uptoSmall H (ds ++ gs) = true) :
    Calls Try.prog 5 args W fun e W' => ∃ v, e = .returned v ∧ Rows.linearRenamesSpec.post enc Try.prog Try.f5 false true false false W args v W' := by
  have hW' := hW
  obtain ⟨p, q, hA0, hV, rfl, hfz, hnd⟩ := hW
  have hA : DataW.TrodAll enc Try.prog W 0 (fun _ => true) true Try.f5.params.toList args.toList ds p := hA0
  rw [Try.params5] at hA hval
  obtain ⟨v0, vs0, d0, ds0, p0, q0, hargs, rfl, rfl, h0, r0⟩ := trodAll_cons hA
  obtain ⟨v1, vs1, d1, ds1, p1, q1, rfl, rfl, rfl, h1, r1⟩ := trodAll_cons r0
  obtain ⟨rfl, rfl, rfl⟩ := trodAll_nil r1
  obtain rfl : args = #[v0, v1] := by cases args; simp_all
  obtain ⟨rfl, rfl⟩ := trodVars_none hV
  obtain ⟨a0, len0, cap0, rfl⟩ := okWide_slice Try.underlying23 (hval 0 23 v0 rfl rfl)
  have k0 := h0
  have lt0 : ∀ x ∈ p0, x.block < W.heap.size := by obtain ⟨m, hm⟩ := k0; exact DataW.trod_lt m _ _ _ hm
  obtain ⟨m0, g0⟩ := h0
  obtain ⟨f, hC0, ok0⟩ := opens_Form H enc W m0 _ _ g0
  obtain ⟨a1, len1, cap1, rfl⟩ := okWide_slice Try.underlying40 (hval 1 40 v1 rfl rfl)
  have k1 := h1
  have lt1 : ∀ x ∈ p1, x.block < W.heap.size := by obtain ⟨m, hm⟩ := k1; exact DataW.trod_lt m _ _ _ hm
  obtain ⟨m1, g1⟩ := h1
  obtain ⟨tn, hC1, ok1⟩ := opens_Ints H enc W m1 _ _ g1
  have hb : Rows.uptoBulkAll (H := H) [d0, d1] ≤ 1048576 := by
    have h2 := of_decide_eq_true hk
    simpa only [List.append_nil] using h2
  simp only [Rows.uptoBulkAll] at hb
  obtain ⟨A0, c0, e0, hc0, hm0, hr0⟩ := hC0
  obtain ⟨A1, c1, e1, hc1, hm1, hr1⟩ := hC1
  simp [Value.cells] at e0 e1
  obtain ⟨rfl, rfl, rfl⟩ := e0
  obtain ⟨rfl, rfl, rfl⟩ := e1
  have w0 : (f.map wtm).sum + 1 ≤ Rows.uptoBulk d0 := wt_form ok0
  have hlaw := law_Renames a0 cap0 f a1 cap1 tn W hr0 hc0 hr1 hc1 hm1 (fun m hm => (ok_mem ok0 hm).elim fun d h => by obtain ⟨_, _, _, _, h⟩ := h; exact good_rat h) (by omega)
  refine hlaw.mono fun e W' ⟨he, bel⟩ => ?_
  subst he
  exact ⟨_, rfl, _, _, _, [], _, [], hW', trodAll_mk1 (shut_bool Try.underlying4 _), (trodAll_cons_mk (Below.trod prog_laid (by kernel_rfl) (of_decide_eq_true (by kernel_rfl)) k0 bel lt0) (trodAll_cons_mk (Below.trod prog_laid (by kernel_rfl) (of_decide_eq_true (by kernel_rfl)) k1 bel lt1) trodAll_mk0)), rfl, bel.frame _, fun h => by cases h⟩

set_option maxRecDepth 100000 in
theorem lifted (os : Os) (started : os.Started) (H : Type) (enc : TypeId × Value → H) (F : Stop.Interp) :
    ReturnsInHanded {} Try.checked os 5 .any ((Rows.OpenSpec.upto Rows.linearRenamesSpec).pre6 enc Try.prog Try.f5 Rows.linearRenamesUptoRow.domain false) (((Rows.OpenSpec.upto Rows.linearRenamesSpec).at F).post enc Try.prog Try.f5 false true false false) := by
  refine returnsInHanded_of_cond (C := Try.checked) (s := Rows.OpenSpec.upto Rows.linearRenamesSpec) (k := Rows.uptoSmall) rfl prog_own started (by kernel_rfl) Try.func5
    (OpenSpec.witness (enc := enc) (C := Try.checked) (s := Rows.OpenSpec.upto Rows.linearRenamesSpec) (k := Rows.uptoSmall) rfl false ⟨#[], #[.slice none 0 0, .slice none 0 0], []⟩ 8 (by kernel_rfl) (by kernel_rfl) (by kernel_rfl)
      (x := ([.nil, .nil], [], [])) (by kernel_rfl) rfl (by kernel_rfl)) ?_
  intro W base args ds gs before hval hW _ hk _
  exact contract H enc W base args ds gs before hval hW hk

theorem over : Rows.LinearRenamesUptoSaid :=
  OpenClaim.holds_of_cond 5 Try.f5 rfl rfl rfl rfl rfl rfl rfl ⟨rfl, rfl, rfl, rfl, rfl⟩ rfl rfl rfl rfl rfl (by kernel_rfl) Try.func5 (by kernel_rfl)
    (of_decide_eq_true (by kernel_rfl)) (by unfold Func.isWrapper; first | (rw [if_pos (by decide +kernel)]; kernel_rfl) | (rw [if_neg (by decide +kernel)]; exact ⟨rfl, rfl⟩))
    (fun os started H enc _ F => lifted os started H enc F)
end Go.Proofs.Ytchdoignomidjaa.renames
namespace Go.Proofs.Ytchdoignomidjaa
theorem linearRenames_holds : Rows.LinearRenamesUptoSaid := renames.over
#print axioms linearRenames_holds
end Go.Proofs.Ytchdoignomidjaa

/- LinearReckons: for every two forms and every variable of bulk at most 1048576, linear's reckoning tells what the reference tells; the arguments read as they did. -/
import Derived.Test.YtchdoignomidjaaCof
set_option linter.unusedVariables false
set_option linter.unusedSimpArgs false
namespace Go.Proofs.Ytchdoignomidjaa.F
open Go.RowKit Go.Shelf Go.Proofs.YtchdoignomidjaaW.PrintLast

theorem FRaw.of {w : World} {A : Option Addr} {c : Nat} {f : List (Int × RatD)} (h : kMono.Row w A f) (hc : f.length ≤ c) (hf : ∀ m ∈ f, Good (wt m.2) m.2) (hb : (f.map wtm).sum ≤ 1048576) : FRaw w A c f := ⟨h, hc, hf, by omega⟩

set_option maxHeartbeats 4000000 in
set_option maxRecDepth 100000 in
theorem law_Reckons (A : Option Addr) (c : Nat) (f : List (Int × RatD)) (B : Option Addr) (d : Nat) (g : List (Int × RatD)) (u : Int) (w : World) (hr : kMono.Row w A f) (hc : f.length ≤ c) (kr : kMono.Row w B g) (kc : g.length ≤ d)
    (hf : ∀ m ∈ f, Good (wt m.2) m.2) (hg : ∀ m ∈ g, Good (wt m.2) m.2) (hb : (f.map wtm).sum + (g.map wtm).sum ≤ 1048576) :
    Calls Try.prog 10 #[.slice A f.length c, .slice B g.length d, .int .i64 u] w fun e w' => e = .returned (.bool true) ∧ Below w.heap.size w w' := by
  have hlf : f.length * 7 ≤ (f.map wtm).sum := len_le_sum f fun m _ => wtm7 m
  have hlg : g.length * 7 ≤ (g.map wtm).sum := len_le_sum g fun m _ => wtm7 m
  have hmf := mf_fval hf
  have hmg := mf_fval hg
  have R : FRaw w A c f := FRaw.of hr hc hf (by omega)
  have T : FRaw w B d g := FRaw.of kr kc hg (by omega)
  have N1 := Lib.hid (fun (W : World) (hb : Below w.heap.size w W) => linear_Norm f.length A c f W (Nat.le_refl _) (R.below hb))
  have N2 := Lib.hid (fun (W : World) (hb : Below w.heap.size w W) => r6_Norm A c f W (R.below hb))
  have A1 := Lib.hid (fun (W : World) (hb : Below w.heap.size w W) => linear_Add A c f B d g W (R.below hb) (T.below hb) (by omega))
  have A2 := Lib.hid (fun (W : World) (hb : Below w.heap.size w W) => r6_Add A c f B d g W (R.below hb) (T.below hb) (by omega))
  have S1 := Lib.hid (fun (W : World) (hb : Below w.heap.size w W) => linear_Sub A c f B d g W (R.below hb) (T.below hb) (by omega))
  have S2 := Lib.hid (fun (W : World) (hb : Below w.heap.size w W) => r6_Sub A c f B d g W (R.below hb) (T.below hb) (by omega))
  have C1 := Lib.hid (fun (W : World) (hb : Below w.heap.size w W) => linear_Coef A c f u W (R.below hb))
  have C2 := Lib.hid (fun (W : World) (hb : Below w.heap.size w W) => r6_Coef A c f u W (R.below hb))
  have V1 := Lib.hid (fun (W : World) (hb : Below w.heap.size w W) => linear_Vars A c f W (R.below hb))
  have V2 := Lib.hid (fun (W : World) (hb : Below w.heap.size w W) => r6_Vars A c f W (R.below hb))
  have M1 := Lib.hid (fun (W : World) (hb : Below w.heap.size w W) => linear_Cmp A c f B d g W (R.below hb) (T.below hb) (by omega))
  have M2 := Lib.hid (fun (W : World) (hb : Below w.heap.size w W) => r6_Cmp A c f B d g W (R.below hb) (T.below hb) (by omega))
  have l1 : (nform (fval f)).length ≤ 1048576 := by have := nform_len (fval f); rw [fval_length] at this; omega
  have l2 : (nform (fval f ++ fval g)).length ≤ 1048576 := by have := nform_len (fval f ++ fval g); rw [List.length_append, fval_length, fval_length] at this; omega
  have l3 : (nform (fval f ++ smul (-1) (fval g))).length ≤ 1048576 := by have := nform_len (fval f ++ smul (-1) (fval g)); rw [List.length_append, smul_length, fval_length, fval_length] at this; omega
  have l4 : (fsv (nform (fval f))).length ≤ 1048576 := by rw [fsv_length]; exact l1
  have l5 : QL (co (fval f) u) := ql_of_mf (by omega) u
  clear hr hc kr kc hf hg hb hlf hlg hmf hmg R T
  generalize fsv (nform (fval f)) = xs at *
  generalize fsg (nform (fval f ++ smul (-1) (fval g))) = z at *
  generalize nform (fval f ++ smul (-1) (fval g)) = s at *
  generalize nform (fval f ++ fval g) = a at *
  generalize nform (fval f) = n at *
  generalize co (fval f) u = q at *
  have HB := Lib.hid (Below.refl w.heap.size w)
  go_enter Try.func10, Try.ntmps10
  go_wp2_with fail
  refine (N1.out w HB.out).mono ?_
  rintro e W1 ⟨v, rfl, h1, h2⟩
  obtain ⟨E1, e1, rfl, h3⟩ := h1.fin
  have Q1 := Lib.hid h3
  replace HB := Lib.hid (HB.out.trans (h2.mono HB.out.size))
  clear h1 h2 h3 N1
  go_wp2_with fail
  refine (N2.out W1 HB.out).mono ?_
  rintro e W2 ⟨v, rfl, h1, h2⟩
  obtain ⟨E2, e2, rfl, h3⟩ := h1.fin
  have Q2 := Lib.hid h3
  replace Q1 := Lib.hid (Q1.out.below h2)
  replace HB := Lib.hid (HB.out.trans (h2.mono HB.out.size))
  clear h1 h2 h3 N2
  have hF := Lib.hid (same_FormB E1 e1 E2 e2 n n W2 Q1.out Q2.out (by omega) (by omega))
  rw [decide_eq_true (rfl : n = n)] at hF
  go_wp2_with fail
  refine hF.out.mono ?_
  rintro e W3 ⟨rfl, h2⟩
  replace HB := Lib.hid (HB.out.trans (h2.mono HB.out.size))
  clear h2 hF
  go_wp2_with fail
  refine (A1.out W3 HB.out).mono ?_
  rintro e W4 ⟨v, rfl, h1, h2⟩
  obtain ⟨E4, e4, rfl, h3⟩ := h1.fin
  have Q4 := Lib.hid h3
  replace HB := Lib.hid (HB.out.trans (h2.mono HB.out.size))
  clear h1 h2 h3 A1
  go_wp2_with fail
  refine (A2.out W4 HB.out).mono ?_
  rintro e W5 ⟨v, rfl, h1, h2⟩
  obtain ⟨E5, e5, rfl, h3⟩ := h1.fin
  have Q5 := Lib.hid h3
  replace Q4 := Lib.hid (Q4.out.below h2)
  replace HB := Lib.hid (HB.out.trans (h2.mono HB.out.size))
  clear h1 h2 h3 A2
  have hF := Lib.hid (same_FormB E4 e4 E5 e5 a a W5 Q4.out Q5.out (by omega) (by omega))
  rw [decide_eq_true (rfl : a = a)] at hF
  go_wp2_with fail
  refine hF.out.mono ?_
  rintro e W6 ⟨rfl, h2⟩
  replace HB := Lib.hid (HB.out.trans (h2.mono HB.out.size))
  clear h2 hF
  go_wp2_with fail
  refine (S1.out W6 HB.out).mono ?_
  rintro e W7 ⟨v, rfl, h1, h2⟩
  obtain ⟨E7, e7, rfl, h3⟩ := h1.fin
  have Q7 := Lib.hid h3
  replace HB := Lib.hid (HB.out.trans (h2.mono HB.out.size))
  clear h1 h2 h3 S1
  go_wp2_with fail
  refine (S2.out W7 HB.out).mono ?_
  rintro e W8 ⟨v, rfl, h1, h2⟩
  obtain ⟨E8, e8, rfl, h3⟩ := h1.fin
  have Q8 := Lib.hid h3
  replace Q7 := Lib.hid (Q7.out.below h2)
  replace HB := Lib.hid (HB.out.trans (h2.mono HB.out.size))
  clear h1 h2 h3 S2
  have hF := Lib.hid (same_FormB E7 e7 E8 e8 s s W8 Q7.out Q8.out (by omega) (by omega))
  rw [decide_eq_true (rfl : s = s)] at hF
  go_wp2_with fail
  refine hF.out.mono ?_
  rintro e W9 ⟨rfl, h2⟩
  replace HB := Lib.hid (HB.out.trans (h2.mono HB.out.size))
  clear h2 hF
  go_wp2_with fail
  refine (C1.out W9 HB.out).mono ?_
  rintro e W10 ⟨E10, e10, G10, g10, rfl, h1, h3, h2⟩
  have Q10 := Lib.hid (InQ.mk h1 h3)
  replace HB := Lib.hid (HB.out.trans (h2.mono HB.out.size))
  clear h1 h2 h3 C1
  go_wp2_with fail
  refine (C2.out W10 HB.out).mono ?_
  rintro e W11 ⟨E11, e11, G11, g11, rfl, h1, h3, h2⟩
  have Q11 := Lib.hid (InQ.mk h1 h3)
  replace Q10 := Lib.hid (Q10.out.below h2)
  replace HB := Lib.hid (HB.out.trans (h2.mono HB.out.size))
  clear h1 h2 h3 C2
  have l6 := l5.1
  have l7 := l5.2
  have hF := Lib.hid (same_Rat q E10 e10 G10 g10 E11 e11 G11 g11 W11 Q10.out Q11.out (by omega) (by omega))
  go_wp2_with fail
  refine hF.out.mono ?_
  rintro e W12 ⟨rfl, h2⟩
  replace HB := Lib.hid (HB.out.trans (h2.mono HB.out.size))
  clear h2 hF
  go_wp2_with fail
  refine (V1.out W12 HB.out).mono ?_
  rintro e W13 ⟨v, rfl, h1, h2⟩
  obtain ⟨E13, e13, rfl, h4, h3⟩ := h1.row
  have Q13 := Lib.hid h3
  have k13 := h4
  replace HB := Lib.hid (HB.out.trans (h2.mono HB.out.size))
  clear h1 h2 h3 h4 V1
  go_wp2_with fail
  refine (V2.out W13 HB.out).mono ?_
  rintro e W14 ⟨v, rfl, h1, h2⟩
  obtain ⟨E14, e14, rfl, h4, h3⟩ := h1.row
  have Q14 := Lib.hid h3
  have k14 := h4
  replace Q13 := Lib.hid (Q13.out.below h2)
  replace HB := Lib.hid (HB.out.trans (h2.mono HB.out.size))
  clear h1 h2 h3 h4 V2
  have hF := Lib.hid (same_Ints E13 e13 E14 e14 xs W14 Q13.out k13 Q14.out k14 (by omega))
  go_wp2_with fail
  refine hF.out.mono ?_
  rintro e W15 ⟨rfl, h2⟩
  replace HB := Lib.hid (HB.out.trans (h2.mono HB.out.size))
  clear h2 hF
  go_wp2_with fail
  refine (M1.out W15 HB.out).mono ?_
  rintro e W16 ⟨rfl, h2⟩
  replace HB := Lib.hid (HB.out.trans (h2.mono HB.out.size))
  clear h2 M1
  go_wp2_with fail
  refine (M2.out W16 HB.out).mono ?_
  rintro e W17 ⟨rfl, h2⟩
  replace HB := Lib.hid (HB.out.trans (h2.mono HB.out.size))
  clear h2 M2
  go_wp2
  go_ret
  exact ⟨rfl, HB.out⟩
end Go.Proofs.Ytchdoignomidjaa.F
namespace Go.Proofs.Ytchdoignomidjaa.reckons
open Go.ChangeShapes Go.WideShapes Go.ChangeAt Go.RowKit
open Go.Proofs.Ytchdoignomidjaa.F

set_option maxRecDepth 100000 in
theorem contract (H : Type) (enc : TypeId × Value → H) (W : World) (base : Nat) (args : Array Value) (ds gs : List (DataW H)) (before : List MemPlace)
    (hval : ∀ (j : Nat) t v, Try.f10.params[j]? = some t → args[j]? = some v → Value.okWide Try.prog W .any base t v)
    (hW : DataW.Whole enc Try.prog Try.f10.params.toList Rows.linearReckonsSpec.vars false W args.toList ds gs before) (hk : Rows.uptoSmall H (ds ++ gs) = true) :
    Calls Try.prog 10 args W fun e W' => ∃ v, e = .returned v ∧ Rows.linearReckonsSpec.post enc Try.prog Try.f10 false true false false W args v W' := by
  have hW' := hW
  obtain ⟨p, q, hA0, hV, rfl, hfz, hnd⟩ := hW
  have hA : DataW.TrodAll enc Try.prog W 0 (fun _ => true) true Try.f10.params.toList args.toList ds p := hA0
  rw [Try.params10] at hA hval
  obtain ⟨v0, vs0, d0, ds0, p0, q0, hargs, rfl, rfl, h0, r0⟩ := trodAll_cons hA
  obtain ⟨v1, vs1, d1, ds1, p1, q1, rfl, rfl, rfl, h1, r1⟩ := trodAll_cons r0
  obtain ⟨v2, vs2, d2, ds2, p2, q2, rfl, rfl, rfl, h2, r2⟩ := trodAll_cons r1
  obtain ⟨rfl, rfl, rfl⟩ := trodAll_nil r2
  obtain rfl : args = #[v0, v1, v2] := by cases args; simp_all
  obtain ⟨rfl, rfl⟩ := trodVars_none hV
  obtain ⟨a0, len0, cap0, rfl⟩ := okWide_slice Try.underlying23 (hval 0 23 v0 rfl rfl)
  have k0 := h0
  have lt0 : ∀ x ∈ p0, x.block < W.heap.size := by obtain ⟨m, hm⟩ := k0; exact DataW.trod_lt m _ _ _ hm
  obtain ⟨m0, g0⟩ := h0
  obtain ⟨f, hC0, ok0⟩ := opens_Form H enc W m0 _ _ g0
  obtain ⟨a1, len1, cap1, rfl⟩ := okWide_slice Try.underlying23 (hval 1 23 v1 rfl rfl)
  have k1 := h1
  have lt1 : ∀ x ∈ p1, x.block < W.heap.size := by obtain ⟨m, hm⟩ := k1; exact DataW.trod_lt m _ _ _ hm
  obtain ⟨m1, g1⟩ := h1
  obtain ⟨g, hC1, ok1⟩ := opens_Form H enc W m1 _ _ g1
  obtain ⟨n2, rfl⟩ := okWide_int Try.underlying3 (hval 2 3 v2 rfl rfl)
  have k2 := h2
  have lt2 : ∀ x ∈ p2, x.block < W.heap.size := by obtain ⟨m, hm⟩ := k2; exact DataW.trod_lt m _ _ _ hm
  obtain ⟨m2, g2⟩ := h2
  obtain ⟨u, hC2, ok2⟩ := opens_int (k := .i64) Try.underlying3 H enc W m2 _ _ g2
  have hb : Rows.uptoBulkAll (H := H) [d0, d1, d2] ≤ 1048576 := by
    have h2 := of_decide_eq_true hk
    simpa only [List.append_nil] using h2
  simp only [Rows.uptoBulkAll] at hb
  obtain ⟨A0, c0, e0, hc0, hm0, hr0⟩ := hC0
  obtain ⟨A1, c1, e1, hc1, hm1, hr1⟩ := hC1
  simp [Value.cells] at e0 e1
  obtain ⟨rfl, rfl, rfl⟩ := e0
  obtain ⟨rfl, rfl, rfl⟩ := e1
  have e2 : (Value.cells (.int .i64 n2)).toList = [.int .i64 u] := hC2
  simp [Value.cells] at e2
  subst e2
  have w0 : (f.map wtm).sum + 1 ≤ Rows.uptoBulk d0 := wt_form ok0
  have w1 : (g.map wtm).sum + 1 ≤ Rows.uptoBulk d1 := wt_form ok1
  have hlaw := law_Reckons a0 cap0 f a1 cap1 g n2 W hr0 hc0 hr1 hc1 (fun m hm => (ok_mem ok0 hm).elim fun d h => by obtain ⟨_, _, _, _, h⟩ := h; exact good_rat h) (fun m hm => (ok_mem ok1 hm).elim fun d h => by obtain ⟨_, _, _, _, h⟩ := h; exact good_rat h) (by omega)
  refine hlaw.mono fun e W' ⟨he, bel⟩ => ?_
  subst he
  exact ⟨_, rfl, _, _, _, [], _, [], hW', trodAll_mk1 (shut_bool Try.underlying4 _), (trodAll_cons_mk (Below.trod prog_laid (by kernel_rfl) (of_decide_eq_true (by kernel_rfl)) k0 bel lt0) (trodAll_cons_mk (Below.trod prog_laid (by kernel_rfl) (of_decide_eq_true (by kernel_rfl)) k1 bel lt1) (trodAll_cons_mk (Below.trod prog_laid (by kernel_rfl) (of_decide_eq_true (by kernel_rfl)) k2 bel lt2) trodAll_mk0))), rfl, bel.frame _, fun h => by cases h⟩

set_option maxRecDepth 100000 in
theorem lifted (os : Os) (started : os.Started) (H : Type) (enc : TypeId × Value → H) (F : Stop.Interp) :
    ReturnsInHanded {} Try.checked os 10 .any ((Rows.OpenSpec.upto Rows.linearReckonsSpec).pre6 enc Try.prog Try.f10 Rows.linearReckonsUptoRow.domain false) (((Rows.OpenSpec.upto Rows.linearReckonsSpec).at F).post enc Try.prog Try.f10 false true false false) := by
  refine returnsInHanded_of_cond (C := Try.checked) (s := Rows.OpenSpec.upto Rows.linearReckonsSpec) (k := Rows.uptoSmall) rfl prog_own started (by kernel_rfl) Try.func10
    (OpenSpec.witness (enc := enc) (C := Try.checked) (s := Rows.OpenSpec.upto Rows.linearReckonsSpec) (k := Rows.uptoSmall) rfl false ⟨#[], #[.slice none 0 0, .slice none 0 0, .int .i64 0], []⟩ 8 (by kernel_rfl) (by kernel_rfl) (by kernel_rfl)
      (x := ([.nil, .nil, .lit (.int .i64 0)], [], [])) (by kernel_rfl) rfl (by kernel_rfl)) ?_
  intro W base args ds gs before hval hW _ hk _
  exact contract H enc W base args ds gs before hval hW hk

theorem over : Rows.LinearReckonsUptoSaid :=
  OpenClaim.holds_of_cond 10 Try.f10 rfl rfl rfl rfl rfl rfl rfl ⟨rfl, rfl, rfl, rfl, rfl⟩ rfl rfl rfl rfl rfl (by kernel_rfl) Try.func10 (by kernel_rfl)
    (of_decide_eq_true (by kernel_rfl)) (by unfold Func.isWrapper; first | (rw [if_pos (by decide +kernel)]; kernel_rfl) | (rw [if_neg (by decide +kernel)]; exact ⟨rfl, rfl⟩))
    (fun os started H enc _ F => lifted os started H enc F)
end Go.Proofs.Ytchdoignomidjaa.reckons
namespace Go.Proofs.Ytchdoignomidjaa
theorem linearReckons_holds : Rows.LinearReckonsUptoSaid := reckons.over
#print axioms linearReckons_holds
end Go.Proofs.Ytchdoignomidjaa

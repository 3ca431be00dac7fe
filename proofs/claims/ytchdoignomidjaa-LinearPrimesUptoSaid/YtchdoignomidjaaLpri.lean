/- LinearPrimes: for every form of bulk at most 1048576, Prime tells what the reference tells; the argument reads as it did. -/
import Derived.Test.YtchdoignomidjaaTen
set_option linter.unusedVariables false
set_option linter.unusedSimpArgs false
namespace Go.Proofs.Ytchdoignomidjaa.F
open Go.RowKit Go.Shelf Go.Proofs.YtchdoignomidjaaW.PrintLast

set_option maxHeartbeats 4000000 in
set_option maxRecDepth 100000 in
theorem law_Primes (A : Option Addr) (c : Nat) (f : List (Int × RatD)) (w : World) (hr : kMono.Row w A f) (hc : f.length ≤ c) (hf : ∀ m ∈ f, Good (wt m.2) m.2) (hb : (f.map wtm).sum ≤ 1048576) :
    Calls Try.prog 11 #[.slice A f.length c] w fun e w' => e = .returned (.bool true) ∧ Below w.heap.size w w' := by
  have R : FRaw w A c f := FRaw.of hr hc hf hb
  have hs := Shp.of hf hb
  have h1 := Lib.hid (linear_Prime A c f w R hs)
  have h2 := Lib.hid (fun (W : World) (hb : Below w.heap.size w W) => r6_Prime A c f W (R.below hb) hs)
  have p1 := mu_pc hs.nf
  have p2 := bot_len (nform (fval f))
  have p3 := hs.five
  have p4 := mu_len (pc (nform (fval f)))
  have p5 := nform_len (smul (pc (nform (fval f)))⁻¹ (nform (fval f)))
  rw [smul_length] at p5
  have l1 : (nform (smul (pc (nform (fval f)))⁻¹ (nform (fval f)))).length ≤ 1099511627776 := by omega
  have l2 : (dg (pc (nform (fval f))).num.natAbs).length ≤ 1099511627776 := by omega
  have l3 : (dg (pc (nform (fval f))).den).length ≤ 1099511627776 := by omega
  clear R hs hr hc hf hb p1 p2 p3 p4 p5
  generalize nform (smul (pc (nform (fval f)))⁻¹ (nform (fval f))) = l at *
  generalize pc (nform (fval f)) = q at *
  have HB := Lib.hid (Below.refl w.heap.size w)
  go_enter Try.func11, Try.ntmps11
  go_wp2_with fail
  refine h1.out.mono ?_
  rintro e V1 ⟨E1, e1, A1, c1, B1, d1, rfl, g1, g2, g3⟩
  have Q1 := Lib.hid g1.fin'
  have P1 := Lib.hid g2
  replace HB := Lib.hid g3
  clear g1 g2 g3 h1
  have hal := Lib.hid ((Below.refl _ V1).alloc (Nat.le_refl _) (.cells #[.bool (decide (q.num < 0)), .slice A1 (dg q.num.natAbs).length c1, .slice B1 (dg q.den).length d1] 31))
  have HF := Lib.hid ((Fr.refl V1).box [.bool (decide (q.num < 0)), .slice A1 (dg q.num.natAbs).length c1, .slice B1 (dg q.den).length d1] 31)
  replace Q1 := Lib.hid (Q1.out.below hal.out)
  replace P1 := Lib.hid (P1.out.below hal.out)
  have HB1 := Lib.hid (HB.out.trans (HF.out.bel.mono HB.out.size))
  clear hal
  go_wp2_with fail
  refine (h2.out _ HB1.out).mono ?_
  rintro e V2 ⟨E2, e2, A2, c2, B2, d2, rfl, g1, g2, g3⟩
  have Q2 := Lib.hid g1.fin'
  have P2 := Lib.hid g2
  replace HF := Lib.hid (HF.out.below g3)
  replace Q1 := Lib.hid (Q1.out.below g3)
  replace P1 := Lib.hid (P1.out.below g3)
  clear g1 g2 g3 h2 HB1
  have hal := Lib.hid ((Below.refl _ V2).alloc (Nat.le_refl _) (.cells #[.bool (decide (q.num < 0)), .slice A2 (dg q.num.natAbs).length c2, .slice B2 (dg q.den).length d2] 31))
  replace HF := Lib.hid (HF.out.box [.bool (decide (q.num < 0)), .slice A2 (dg q.num.natAbs).length c2, .slice B2 (dg q.den).length d2] 31)
  replace Q1 := Lib.hid (Q1.out.below hal.out)
  replace P1 := Lib.hid (P1.out.below hal.out)
  replace Q2 := Lib.hid (Q2.out.below hal.out)
  replace P2 := Lib.hid (P2.out.below hal.out)
  clear hal
  have hS := Lib.hid (same_FormB E1 e1 E2 e2 l l _ Q1.out Q2.out l1 l1)
  rw [decide_eq_true (rfl : l = l)] at hS
  go_wp2_with fail
  refine hS.out.mono ?_
  rintro e V3 ⟨rfl, g3⟩
  replace HF := Lib.hid (HF.out.below g3)
  replace P1 := Lib.hid (P1.out.below g3)
  replace P2 := Lib.hid (P2.out.below g3)
  clear g3 hS Q1 Q2
  have hR := Lib.hid (same_Rat q A1 c1 B1 d1 A2 c2 B2 d2 V3 P1.out P2.out l2 l3)
  unfold qv at hR
  have b0 := HF.out.cellN 1 rfl 0 rfl
  have b1 := HF.out.cellN 1 rfl 1 rfl
  have b2 := HF.out.cellN 1 rfl 2 rfl
  have a0 := HF.out.cellN 0 rfl 0 rfl
  have a1 := HF.out.cellN 0 rfl 1 rfl
  have a2 := HF.out.cellN 0 rfl 2 rfl
  go_wp2_with fail
  refine hR.out.mono ?_
  rintro e V4 ⟨rfl, g3⟩
  replace HF := Lib.hid (HF.out.below g3)
  clear g3 hR a0 a1 a2 b0 b1 b2
  have HBe := Lib.hid (HB.out.trans (HF.out.bel.mono HB.out.size))
  go_wp2
  go_ret
  exact ⟨rfl, HBe.out⟩
end Go.Proofs.Ytchdoignomidjaa.F
namespace Go.Proofs.Ytchdoignomidjaa.primes
open Go.ChangeShapes Go.WideShapes Go.ChangeAt Go.RowKit
open Go.Proofs.Ytchdoignomidjaa.F

set_option maxRecDepth 100000 in
theorem contract (H : Type) (enc : TypeId × Value → H) (W : World) (base : Nat) (args : Array Value) (ds gs : List (DataW H)) (before : List MemPlace)
    (hval : ∀ (j : Nat) t v, Try.f11.params[j]? = some t → args[j]? = some v → Value.okWide Try.prog W .any base t v)
    (hW : DataW.Whole enc Try.prog Try.f11.params.toList Rows.linearPrimesSpec.vars false W args.toList ds gs before) (hk : Rows.uptoSmall H (ds ++ gs) = true) :
    Calls Try.prog 11 args W fun e W' => ∃ v, e = .returned v ∧ Rows.linearPrimesSpec.post enc Try.prog Try.f11 false true false false W args v W' := by
  have hW' := hW
  obtain ⟨p, q, hA0, hV, rfl, hfz, hnd⟩ := hW
  have hA : DataW.TrodAll enc Try.prog W 0 (fun _ => true) true Try.f11.params.toList args.toList ds p := hA0
  rw [Try.params11] at hA hval
  obtain ⟨v0, vs0, d0, ds0, p0, q0, hargs, rfl, rfl, h0, r0⟩ := trodAll_cons hA
  obtain ⟨rfl, rfl, rfl⟩ := trodAll_nil r0
  obtain rfl : args = #[v0] := by cases args; simp_all
  obtain ⟨rfl, rfl⟩ := trodVars_none hV
  obtain ⟨a0, len0, cap0, rfl⟩ := okWide_slice Try.underlying23 (hval 0 23 v0 rfl rfl)
  have k0 := h0
  have lt0 : ∀ x ∈ p0, x.block < W.heap.size := by obtain ⟨m, hm⟩ := k0; exact DataW.trod_lt m _ _ _ hm
  obtain ⟨m0, g0⟩ := h0
  obtain ⟨f, hC0, ok0⟩ := opens_Form H enc W m0 _ _ g0
  have hb : Rows.uptoBulkAll (H := H) [d0] ≤ 1048576 := by
    have h2 := of_decide_eq_true hk
    simpa only [List.append_nil] using h2
  simp only [Rows.uptoBulkAll] at hb
  obtain ⟨A0, c0, e0, hc0, hm0, hr0⟩ := hC0
  simp [Value.cells] at e0
  obtain ⟨rfl, rfl, rfl⟩ := e0
  have w0 : (f.map wtm).sum + 1 ≤ Rows.uptoBulk d0 := wt_form ok0
  have hlaw := law_Primes a0 cap0 f W hr0 hc0 (good_form ok0) (by omega)
  refine hlaw.mono fun e W' ⟨he, bel⟩ => ?_
  subst he
  exact ⟨_, rfl, _, _, _, [], _, [], hW', trodAll_mk1 (shut_bool Try.underlying4 _), (trodAll_cons_mk (Below.trod prog_laid (by kernel_rfl) (of_decide_eq_true (by kernel_rfl)) k0 bel lt0) trodAll_mk0), rfl, bel.frame _, fun h => by cases h⟩

set_option maxRecDepth 100000 in
theorem lifted (os : Os) (started : os.Started) (H : Type) (enc : TypeId × Value → H) (F : Stop.Interp) :
    ReturnsInHanded {} Try.checked os 11 .any ((Rows.OpenSpec.upto Rows.linearPrimesSpec).pre6 enc Try.prog Try.f11 Rows.linearPrimesUptoRow.domain false) (((Rows.OpenSpec.upto Rows.linearPrimesSpec).at F).post enc Try.prog Try.f11 false true false false) := by
  refine returnsInHanded_of_cond (C := Try.checked) (s := Rows.OpenSpec.upto Rows.linearPrimesSpec) (k := Rows.uptoSmall) rfl prog_own started (by kernel_rfl) Try.func11
    (OpenSpec.witness (enc := enc) (C := Try.checked) (s := Rows.OpenSpec.upto Rows.linearPrimesSpec) (k := Rows.uptoSmall) rfl false ⟨#[], #[.slice none 0 0], []⟩ 8 (by kernel_rfl) (by kernel_rfl) (by kernel_rfl)
      (x := ([.nil], [], [])) (by kernel_rfl) rfl (by kernel_rfl)) ?_
  intro W base args ds gs before hval hW _ hk _
  exact contract H enc W base args ds gs before hval hW hk

theorem over : Rows.LinearPrimesUptoSaid :=
  OpenClaim.holds_of_cond 11 Try.f11 rfl rfl rfl rfl rfl rfl rfl ⟨rfl, rfl, rfl, rfl, rfl⟩ rfl rfl rfl rfl rfl (by kernel_rfl) Try.func11 (by kernel_rfl)
    (of_decide_eq_true (by kernel_rfl)) (by unfold Func.isWrapper; first | (rw [if_pos (by decide +kernel)]; kernel_rfl) | (rw [if_neg (by decide +kernel)]; exact ⟨rfl, rfl⟩))
    (fun os started H enc _ F => lifted os started H enc F)
end Go.Proofs.Ytchdoignomidjaa.primes
namespace Go.Proofs.Ytchdoignomidjaa
theorem linearPrimes_holds : Rows.LinearPrimesUptoSaid := primes.over
#print axioms linearPrimes_holds
end Go.Proofs.Ytchdoignomidjaa

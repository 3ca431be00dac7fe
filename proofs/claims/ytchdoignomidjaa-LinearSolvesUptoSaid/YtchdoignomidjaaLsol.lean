/- LinearSolves: for every affine form and every variable of bulk at most 1048576 together, with what Solve tells in the variable's place the form is 0; the argument reads as it did. -/
import Derived.Test.YtchdoignomidjaaPud
set_option linter.unusedVariables false
set_option linter.unusedSimpArgs false
namespace Go.Proofs.Ytchdoignomidjaa.F
open Go.RowKit Go.Shelf Go.Proofs.YtchdoignomidjaaW.PrintLast

theorem solves_form (R : Frm) (q : Rat) (hq : q ≠ 0) : nform (R ++ smul q (nform (smul (-q⁻¹) R))) = [] := (nform_eq Nf.nil fun u => by
  rw [co_append, co_smul, co_nform, co_smul]
  show (0 : Rat) = _
  have := Rat.mul_inv_cancel q hq
  grind).symm
theorem solves_back (R : Frm) (q : Rat) (hq : q ≠ 0) : nform (smul q (nform (smul (-q⁻¹) R))) = nform (smul (-1) R) := nform_congr fun u => by
  rw [co_smul, co_nform, co_smul, co_smul]
  have := Rat.mul_inv_cancel q hq
  grind
theorem solves_const (p q : Rat) (hq : q ≠ 0) : p + q * (-q⁻¹ * p) = 0 := by
  have := Rat.mul_inv_cancel q hq
  grind
theorem solves_alone (F : Frm) (v : Int) (o : Rat) : co (nform (smul o (wout (nform F) v))) v = 0 := by rw [co_nform, co_smul, co_wout, if_pos rfl, Rat.mul_zero]

set_option maxHeartbeats 4000000 in
set_option maxRecDepth 100000 in
theorem law_Solves (A : Option Addr) (c : Nat) (f : List (Int × RatD)) (s1 : Bool) (A1 : Option Addr) (c1 : Nat) (x1 : List Int) (B1 : Option Addr) (d1 : Nat) (y1 : List Int) (v : Int) (w : World)
    (hr : kMono.Row w A f) (hc : f.length ≤ c) (hl1 : LiesQ w ((s1, x1), y1) A1 c1 B1 d1) (gf : GoodA (f, (s1, x1), y1)) (hb : wtA (f, (s1, x1), y1) ≤ 1048576) :
    Calls Try.prog 15 #[.agg #[.slice A f.length c, .bool s1, .slice A1 x1.length c1, .slice B1 y1.length d1], .int .i64 v] w fun e w' => e = .returned (.bool true) ∧ Below w.heap.size w w' := by
  unfold wtA at hb
  dsimp only at hb
  have hlf : f.length * 7 ≤ (f.map wtm).sum := len_le_sum f fun m _ => wtm7 m
  have hlr : (fr v f).length * 7 ≤ ((fr v f).map wtm).sum := len_le_sum (fr v f) fun m _ => wtm7 m
  have n1 := gf.const.mn
  have n2 := gf.const.md
  dsimp only at n1 n2
  have u1 := mu_rq gf.const
  change mu (rv s1 x1 y1) ≤ _ at u1
  have hmf := mf_fval gf.form
  dsimp only at hmf u1
  have hsp := mu_split f gf.form v
  have hpf := prod_le2 (n := (fr v f).length) (V := mu (co (fval f) v)) (by omega)
  have f1 := mf_wout (nform (fval f)) v
  have f2 := mf_nform (fval f)
  have f4 := wout_len f v
  have f6 := fr_length v f
  have R : FRaw w A c f := FRaw.of hr hc gf.form (by omega)
  have i1 := hl1.num gf.const
  have i2 := hl1.den gf.const
  have hC := Lib.hid (fun (W : World) (hb : Below w.heap.size w W) => linear_Coef A c f v W (R.below hb))
  have cl := mu_len (co (fval f) v)
  have hG := Lib.hid (fun (W : World) (A5 : Option Addr) (c5 : Nat) (B5 : Option Addr) (d5 : Nat) (k : InQ W A5 c5 B5 d5 (co (fval f) v)) => r3_Sign (decide ((co (fval f) v).num < 0)) A5 c5 _ B5 d5 _ W k.num (by omega) k.den (by omega))
  rw [rv_can] at hG
  have HF := Lib.hid ((Fr.refl w).box [.slice A f.length c, .bool s1, .slice A1 x1.length c1, .slice B1 y1.length d1] 60)
  by_cases hz : co (fval f) v = 0
  · have hX1 := Lib.hid (fun (W : World) (hb : Below w.heap.size w W) => linear_Solve_none A c f s1 A1 c1 x1 B1 d1 y1 v W (R.below hb) (by omega) hz)
    have hK := Lib.hid (fun (W : World) => law_awake W)
    rw [hz, show sgn (0 : Rat).num = 0 from rfl] at hG
    rw [hz] at hC
    obtain ⟨q, hq⟩ : ∃ q, q = (0 : Rat) := ⟨_, rfl⟩
    rw [← hq] at hC hG
    clear hr hc hl1 gf hb hlf hlr n1 n2 u1 hmf hsp hpf f1 f2 f4 f6 R i1 i2 cl hz hq
    go_enter Try.func15, Try.ntmps15
    go_wp2_with fail
    refine (hX1.out _ HF.out.bel).mono ?_
    rintro e V1 ⟨rfl, h2⟩
    replace HF := Lib.hid (HF.out.below h2)
    clear h2 hX1
    have hw1 := HF.out.ltN 0 rfl
    replace HF := Lib.hid (HF.out.box [.slice none 0 0, .bool false, .slice none 0 0, .slice none 0 0] 60)
    have b0 := HF.out.cellN 1 rfl 0 rfl
    go_wp2_with fail
    refine (hC.out _ HF.out.bel).mono ?_
    rintro e V2 ⟨A5, c5, B5, d5, rfl, q1, q2, q3⟩
    replace HF := Lib.hid (HF.out.below q3)
    have Q5 := Lib.hid (InQ.mk q1 q2)
    clear q1 q2 q3 hC b0
    go_wp2_with fail
    refine (hG.out _ A5 c5 B5 d5 Q5.out).mono ?_
    rintro e V3 ⟨rfl, q3⟩
    replace HF := Lib.hid (HF.out.below q3)
    clear q3 hG Q5
    go_wp2_with fail
    refine (hK.out _).mono ?_
    rintro e V4 ⟨rfl, q3⟩
    replace HF := Lib.hid (HF.out.below q3)
    clear q3 hK
    go_wp2
    go_ret
    exact ⟨rfl, HF.out.bel⟩
  · have m1 := mu_inv hz
    have m2 := mu_neg (co (fval f) v)⁻¹
    have e1 := mf_smul (-(co (fval f) v)⁻¹) (wout (nform (fval f)) v)
    have e2 := mf_nform (smul (-(co (fval f) v)⁻¹) (wout (nform (fval f)) v))
    rw [m2, m1] at e1
    have e4 : (wout (nform (fval f)) v).length * mu (co (fval f) v) ≤ (fr v f).length * mu (co (fval f) v) := Nat.mul_le_mul_right _ f4
    have e5 := mu_mul (-(co (fval f) v)⁻¹) (rv s1 x1 y1)
    rw [m2, m1] at e5
    have hX1 := Lib.hid (fun (W : World) (hb : Below w.heap.size w W) => linear_Solve_some A c f s1 A1 c1 x1 B1 d1 y1 v W (R.below hb) (i1.below hb) (by omega) (i2.below hb) (by omega) (by omega) (by omega) hz (by omega) (mu_ql (by omega)))
    have xl := nform_len (smul (-(co (fval f) v)⁻¹) (wout (nform (fval f)) v))
    rw [smul_length] at xl
    have xm := mu_len (-(co (fval f) v)⁻¹ * rv s1 x1 y1)
    have t1 := mf_smul (-1) (wout (nform (fval f)) v)
    have t2 := mf_nform (smul (-1) (wout (nform (fval f)) v))
    have t3 : mu (-1 : Rat) ≤ 1 := mu_int (n := -1) (by decide)
    have t4 : (wout (nform (fval f)) v).length * mu (-1 : Rat) ≤ (wout (nform (fval f)) v).length * 1 := Nat.mul_le_mul_left _ t3
    have t5 := mu_mul (co (fval f) v) (-(co (fval f) v)⁻¹ * rv s1 x1 y1)
    have hS1 := Lib.hid (show ∀ (W : World) (hb : Below w.heap.size w W) (E6 : Option Addr) (e6 : Nat) (A6 : Option Addr) (c6 : Nat) (B6 : Option Addr) (d6 : Nat), FIn W E6 e6 (nform (smul (-(co (fval f) v)⁻¹) (wout (nform (fval f)) v))) → InQ W A6 c6 B6 d6 (-(co (fval f) v)⁻¹ * rv s1 x1 y1) → Calls Try.prog 54 #[.agg #[.slice A f.length c, .bool s1, .slice A1 x1.length c1, .slice B1 y1.length d1], .int .i64 v, .agg #[.slice E6 (nform (smul (-(co (fval f) v)⁻¹) (wout (nform (fval f)) v))).length e6, .bool (decide ((-(co (fval f) v)⁻¹ * rv s1 x1 y1).num < 0)), .slice A6 (dg (-(co (fval f) v)⁻¹ * rv s1 x1 y1).num.natAbs).length c6, .slice B6 (dg (-(co (fval f) v)⁻¹ * rv s1 x1 y1).den).length d6]] W (ToldA W [] 0) from fun W hb E6 e6 A6 c6 B6 d6 k1 k2 => by
      have e := linear_Subst A c f s1 A1 c1 x1 B1 d1 y1 v E6 e6 _ (decide ((-(co (fval f) v)⁻¹ * rv s1 x1 y1).num < 0)) A6 c6 _ B6 d6 _ W (R.below hb) (k1.raw (by omega)) (i1.below hb) (by omega) (i2.below hb) (by omega) k2.num (by omega) k2.den (by omega) (by omega) (by rw [fval_can, List.length_map, solves_back _ _ hz]; omega) (by rw [rv_can]; exact mu_ql (by omega))
      rw [List.length_map, fval_can, rv_can, solves_form _ _ hz, solves_const _ _ hz] at e
      exact e)
    have hC2 := Lib.hid (show ∀ (W : World) (E6 : Option Addr) (e6 : Nat), FIn W E6 e6 (nform (smul (-(co (fval f) v)⁻¹) (wout (nform (fval f)) v))) → Calls Try.prog 41 #[.slice E6 (nform (smul (-(co (fval f) v)⁻¹) (wout (nform (fval f)) v))).length e6, .int .i64 v] W (ToldQ W 0) from fun W E6 e6 k1 => by
      have e := linear_Coef E6 e6 _ v W (k1.raw (by omega))
      rw [List.length_map, fval_can, solves_alone] at e
      exact e)
    have hG2 := Lib.hid (fun (W : World) (A5 : Option Addr) (c5 : Nat) (B5 : Option Addr) (d5 : Nat) (k : InQ W A5 c5 B5 d5 0) => r3_Sign (decide ((0 : Rat).num < 0)) A5 c5 _ B5 d5 _ W k.num (by have := mu_len (0 : Rat); rw [mu_zero] at this; omega) k.den (by have := mu_len (0 : Rat); rw [mu_zero] at this; omega))
    rw [rv_can, show sgn (0 : Rat).num = 0 from rfl] at hG2
    have hsg : (sgn (co (fval f) v).num == 0) = false := by rw [sgn_zero]; simpa using hz
    generalize sgn (co (fval f) v).num = sg at *
    clear hr hc hl1 gf hb hlf hlr n1 n2 u1 hmf hsp hpf f1 f2 f4 f6 R i1 i2 cl hz m1 m2 e1 e2 e4 e5 xl xm t1 t2 t3 t4 t5
    generalize nform (smul (-(co (fval f) v)⁻¹) (wout (nform (fval f)) v)) = n at *
    generalize -(co (fval f) v)⁻¹ * rv s1 x1 y1 = r at *
    generalize co (fval f) v = p at *
    obtain ⟨z, hz⟩ : ∃ q, q = (0 : Rat) := ⟨_, rfl⟩
    rw [← hz] at hC2 hG2 hS1
    clear hz
    go_enter Try.func15, Try.ntmps15
    go_wp2_with fail
    refine (hX1.out _ HF.out.bel).mono ?_
    rintro e V1 ⟨E6, e6, A6, c6, B6, d6, rfl, h1, h3, h2⟩
    replace HF := Lib.hid (HF.out.below h2)
    have Q6 := Lib.hid h1.fin'
    have P6 := Lib.hid h3
    clear h1 h2 h3 hX1
    have hw1 := HF.out.ltN 0 rfl
    have hal := Lib.hid ((Below.refl _ V1).alloc (Nat.le_refl _) (.cells #[.slice E6 n.length e6, .bool (decide (r.num < 0)), .slice A6 (dg r.num.natAbs).length c6, .slice B6 (dg r.den).length d6] 60))
    replace HF := Lib.hid (HF.out.box [.slice E6 n.length e6, .bool (decide (r.num < 0)), .slice A6 (dg r.num.natAbs).length c6, .slice B6 (dg r.den).length d6] 60)
    replace Q6 := Lib.hid (Q6.out.below hal.out)
    replace P6 := Lib.hid (P6.out.below hal.out)
    clear hal
    have b0 := HF.out.cellN 1 rfl 0 rfl
    go_wp2_with fail
    refine (hC.out _ HF.out.bel).mono ?_
    rintro e V2 ⟨A5, c5, B5, d5, rfl, q1, q2, q3⟩
    replace HF := Lib.hid (HF.out.below q3)
    replace Q6 := Lib.hid (Q6.out.below q3)
    replace P6 := Lib.hid (P6.out.below q3)
    have Q5 := Lib.hid (InQ.mk q1 q2)
    clear q1 q2 q3 hC b0
    go_wp2_with fail
    refine (hG.out _ A5 c5 B5 d5 Q5.out).mono ?_
    rintro e V3 ⟨rfl, q3⟩
    replace HF := Lib.hid (HF.out.below q3)
    replace Q6 := Lib.hid (Q6.out.below q3)
    replace P6 := Lib.hid (P6.out.below q3)
    clear q3 hG Q5
    have b0 := HF.out.cellN 1 rfl 0 rfl
    have b1 := HF.out.cellN 1 rfl 1 rfl
    have b2 := HF.out.cellN 1 rfl 2 rfl
    have b3 := HF.out.cellN 1 rfl 3 rfl
    have a0 := HF.out.cellN 0 rfl 0 rfl
    have a1 := HF.out.cellN 0 rfl 1 rfl
    have a2 := HF.out.cellN 0 rfl 2 rfl
    have a3 := HF.out.cellN 0 rfl 3 rfl
    go_wp2_with fail
    refine (hS1.out _ HF.out.bel E6 e6 A6 c6 B6 d6 Q6.out P6.out).mono ?_
    rintro e V4 ⟨E7, e7, A7, c7, B7, d7, rfl, h1, h3, h2⟩
    simp only [List.length_nil]
    replace HF := Lib.hid (HF.out.below h2)
    replace Q6 := Lib.hid (Q6.out.below h2)
    have P7 := Lib.hid h3
    clear h1 h2 h3 hS1 P6 a0 a1 a2 a3 b0 b1 b2 b3
    have hw4 := HF.out.ltN 0 rfl
    have hal := Lib.hid ((Below.refl _ V4).alloc (Nat.le_refl _) (.cells #[.slice E7 0 e7, .bool (decide (z.num < 0)), .slice A7 (dg z.num.natAbs).length c7, .slice B7 (dg z.den).length d7] 60))
    replace HF := Lib.hid (HF.out.box [.slice E7 0 e7, .bool (decide (z.num < 0)), .slice A7 (dg z.num.natAbs).length c7, .slice B7 (dg z.den).length d7] 60)
    replace Q6 := Lib.hid (Q6.out.below hal.out)
    replace P7 := Lib.hid (P7.out.below hal.out)
    clear hal
    have b0 := HF.out.cellN 1 rfl 0 rfl
    go_wp2_with fail
    refine (hC2.out _ E6 e6 Q6.out).mono ?_
    rintro e V5 ⟨A8, c8, B8, d8, rfl, q1, q2, q3⟩
    replace HF := Lib.hid (HF.out.below q3)
    replace P7 := Lib.hid (P7.out.below q3)
    have Q8 := Lib.hid (InQ.mk q1 q2)
    clear q1 q2 q3 hC2 b0 Q6
    go_wp2_with fail
    refine (hG2.out _ A8 c8 B8 d8 Q8.out).mono ?_
    rintro e V6 ⟨rfl, q3⟩
    replace HF := Lib.hid (HF.out.below q3)
    replace P7 := Lib.hid (P7.out.below q3)
    clear q3 Q8
    have b0 := HF.out.cellN 0 rfl 0 rfl
    have b1 := HF.out.cellN 0 rfl 1 rfl
    have b2 := HF.out.cellN 0 rfl 2 rfl
    have b3 := HF.out.cellN 0 rfl 3 rfl
    go_wp2_with fail
    refine (hG2.out _ A7 c7 B7 d7 P7.out).mono ?_
    rintro e V7 ⟨rfl, q3⟩
    replace HF := Lib.hid (HF.out.below q3)
    clear q3 hG2 P7 b0 b1 b2 b3
    go_wp2
    go_ret
    exact ⟨rfl, HF.out.bel⟩
end Go.Proofs.Ytchdoignomidjaa.F
namespace Go.Proofs.Ytchdoignomidjaa.solves
open Go.ChangeShapes Go.WideShapes Go.ChangeAt Go.RowKit
open Go.Proofs.Ytchdoignomidjaa.F

set_option maxRecDepth 100000 in
theorem contract (H : Type) (enc : TypeId × Value → H) (W : World) (base : Nat) (args : Array Value) (ds gs : List (DataW H)) (before : List MemPlace)
    (hval : ∀ (j : Nat) t v, Try.f15.params[j]? = some t → args[j]? = some v → Value.okWide Try.prog W .any base t v)
    (hW : DataW.Whole enc Try.prog Try.f15.params.toList Rows.linearSolvesSpec.vars false W args.toList ds gs before) (hk : Rows.uptoSmall H (ds ++ gs) = true) :
    Calls Try.prog 15 args W fun e W' => ∃ v, e = .returned v ∧ Rows.linearSolvesSpec.post enc Try.prog Try.f15 false true false false W args v W' := by
  have hW' := hW
  obtain ⟨p, q, hA0, hV, rfl, hfz, hnd⟩ := hW
  have hA : DataW.TrodAll enc Try.prog W 0 (fun _ => true) true Try.f15.params.toList args.toList ds p := hA0
  rw [Try.params15] at hA hval
  obtain ⟨v0, vs0, d0, ds0, p0, q0, hargs, rfl, rfl, h0, r0⟩ := trodAll_cons hA
  obtain ⟨v1, vs1, d1, ds1, p1, q1, rfl, rfl, rfl, h1, r1⟩ := trodAll_cons r0
  obtain ⟨rfl, rfl, rfl⟩ := trodAll_nil r1
  obtain rfl : args = #[v0, v1] := by cases args; simp_all
  obtain ⟨rfl, rfl⟩ := trodVars_none hV
  obtain ⟨cs0, rfl, hz0⟩ := okWide_struct Try.underlying60 (hval 0 60 v0 rfl rfl)
  have k0 := h0
  have lt0 : ∀ x ∈ p0, x.block < W.heap.size := by obtain ⟨m, hm⟩ := k0; exact DataW.trod_lt m _ _ _ hm
  obtain ⟨m0, g0⟩ := h0
  obtain ⟨f, hC0, ok0⟩ := opens_Affine H enc W m0 _ _ g0
  obtain ⟨n1, rfl⟩ := okWide_int Try.underlying3 (hval 1 3 v1 rfl rfl)
  have k1 := h1
  have lt1 : ∀ x ∈ p1, x.block < W.heap.size := by obtain ⟨m, hm⟩ := k1; exact DataW.trod_lt m _ _ _ hm
  obtain ⟨m1, g1⟩ := h1
  obtain ⟨v, hC1, ok1⟩ := opens_int (k := .i64) Try.underlying3 H enc W m1 _ _ g1
  have hb : Rows.uptoBulkAll (H := H) [d0, d1] ≤ 1048576 := by
    have h2 := of_decide_eq_true hk
    simpa only [List.append_nil] using h2
  simp only [Rows.uptoBulkAll] at hb
  obtain ⟨A0, c0, B0, a0, D0, b0, e0, hc0, hr0, hq0⟩ := kAff_cells hC0
  have e1 : (Value.cells (.int .i64 n1)).toList = [.int .i64 v] := hC1
  simp [Value.cells] at e1
  subst e1
  simp only [Value.cells] at e0
  obtain rfl : cs0 = #[.slice A0 f.1.length c0, .bool f.2.1.1, .slice B0 f.2.1.2.length a0, .slice D0 f.2.2.length b0] := by cases cs0; simp_all
  have w0 : wtA f ≤ Rows.uptoBulk d0 := wt_aff ok0
  have hlaw := law_Solves A0 c0 f.1 f.2.1.1 B0 a0 f.2.1.2 D0 b0 f.2.2 n1 W hr0 hc0 hq0 (good_aff ok0) (by show wtA f ≤ _; omega)
  refine hlaw.mono fun e W' ⟨he, bel⟩ => ?_
  subst he
  exact ⟨_, rfl, _, _, _, [], _, [], hW', trodAll_mk1 (shut_bool Try.underlying4 _), (trodAll_cons_mk (Below.trod prog_laid (by kernel_rfl) (of_decide_eq_true (by kernel_rfl)) k0 bel lt0) (trodAll_cons_mk (Below.trod prog_laid (by kernel_rfl) (of_decide_eq_true (by kernel_rfl)) k1 bel lt1) trodAll_mk0)), rfl, bel.frame _, fun h => by cases h⟩

set_option maxRecDepth 100000 in
theorem lifted (os : Os) (started : os.Started) (H : Type) (enc : TypeId × Value → H) (F : Stop.Interp) :
    ReturnsInHanded {} Try.checked os 15 .any ((Rows.OpenSpec.upto Rows.linearSolvesSpec).pre6 enc Try.prog Try.f15 Rows.linearSolvesUptoRow.domain false) (((Rows.OpenSpec.upto Rows.linearSolvesSpec).at F).post enc Try.prog Try.f15 false true false false) := by
  refine returnsInHanded_of_cond (C := Try.checked) (s := Rows.OpenSpec.upto Rows.linearSolvesSpec) (k := Rows.uptoSmall) rfl prog_own started (by kernel_rfl) Try.func15
    (OpenSpec.witness (enc := enc) (C := Try.checked) (s := Rows.OpenSpec.upto Rows.linearSolvesSpec) (k := Rows.uptoSmall) rfl false ⟨#[], #[.agg #[.slice none 0 0, .bool false, .slice none 0 0, .slice none 0 0], .int .i64 0], []⟩ 8 (by kernel_rfl) (by kernel_rfl) (by kernel_rfl)
      (x := ([.agg [.nil, .agg [.agg [.lit (.bool false), .nil], .nil]], .lit (.int .i64 0)], [], [])) (by kernel_rfl) rfl (by kernel_rfl)) ?_
  intro W base args ds gs before hval hW _ hk _
  exact contract H enc W base args ds gs before hval hW hk

theorem over : Rows.LinearSolvesUptoSaid :=
  OpenClaim.holds_of_cond 15 Try.f15 rfl rfl rfl rfl rfl rfl rfl ⟨rfl, rfl, rfl, rfl, rfl⟩ rfl rfl rfl rfl rfl (by kernel_rfl) Try.func15 (by kernel_rfl)
    (of_decide_eq_true (by kernel_rfl)) (by unfold Func.isWrapper; first | (rw [if_pos (by decide +kernel)]; kernel_rfl) | (rw [if_neg (by decide +kernel)]; exact ⟨rfl, rfl⟩))
    (fun os started H enc _ F => lifted os started H enc F)
end Go.Proofs.Ytchdoignomidjaa.solves
namespace Go.Proofs.Ytchdoignomidjaa
theorem linearSolves_holds : Rows.LinearSolvesUptoSaid := solves.over
#print axioms linearSolves_holds
end Go.Proofs.Ytchdoignomidjaa

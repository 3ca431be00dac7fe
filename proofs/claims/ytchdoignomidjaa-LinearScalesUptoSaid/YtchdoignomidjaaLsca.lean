/- LinearScales: for every rational and every form of bulk at most 1048576, linear.Scale tells what the reference tells; the arguments read as they did. -/
import Derived.Test.YtchdoignomidjaaSix
set_option linter.unusedVariables false
set_option linter.unusedSimpArgs false
namespace Go.Proofs.Ytchdoignomidjaa.F
open Go.RowKit Go.Shelf Go.Proofs.YtchdoignomidjaaW.PrintLast

/-- what is known of a form that is handed in, of bulk at most 1048576 -/
theorem FRaw.of {w : World} {A : Option Addr} {c : Nat} {f : List (Int × RatD)} (h : kMono.Row w A f) (hc : f.length ≤ c) (hf : ∀ m ∈ f, Good (wt m.2) m.2) (hb : (f.map wtm).sum ≤ 1048576) : FRaw w A c f := ⟨h, hc, hf, by omega⟩

set_option maxHeartbeats 2000000 in
set_option maxRecDepth 100000 in
/-- the law: both forms are the same -/
theorem law_Scales (s : Bool) (A : Option Addr) (c : Nat) (xs : List Int) (B : Option Addr) (d : Nat) (ys : List Int) (E : Option Addr) (j : Nat) (f : List (Int × RatD)) (w : World) (hn : In w A c xs) (hd : In w B d ys) (hg : Good (wt ((s, xs), ys)) ((s, xs), ys)) (hr : kMono.Row w E f) (hc : f.length ≤ j)
    (hf : ∀ m ∈ f, Good (wt m.2) m.2) (hb : wt ((s, xs), ys) + (f.map wtm).sum ≤ 1048576) :
    Calls Try.prog 6 #[.agg #[.bool s, .slice A xs.length c, .slice B ys.length d], .slice E f.length j] w fun e w' => e = .returned (.bool true) ∧ Below w.heap.size w w' := by
  have hlf : f.length * 7 ≤ (f.map wtm).sum := len_le_sum f fun m _ => wtm7 m
  have mn := hg.mn
  have md := hg.md
  dsimp only at mn md
  have hmu := mu_rq hg
  have hmf := mf_fval hf
  have hpr : f.length * wt ((s, xs), ys) ≤ 39268272421 := prod_le2 (by omega)
  have hms := mf_smul (rv s xs ys) (fval f)
  rw [fval_length] at hms
  have hml : f.length * mu (rv s xs ys) ≤ f.length * wt ((s, xs), ys) := Nat.mul_le_mul_left _ hmu
  have HF := Lib.hid ((Fr.refl w).box [.bool s, .slice A xs.length c, .slice B ys.length d] 31)
  have hR : FRaw w E j f := FRaw.of hr hc hf (by omega)
  have hL := Lib.hid (fun (W : World) (hb : Below w.heap.size w W) => linear_Scale s A c xs B d ys E j f W (hn.below hb) (by omega) (hd.below hb) (by omega) (hR.below hb) fun v => mu_ql (by
    have h1 := mu_mul (rv s xs ys) (co (fval f) v)
    have h2 := mu_co (fval f) v
    change mu (rv s xs ys) ≤ _ at hmu
    omega))
  have hS := Lib.hid (fun (W : World) (hb : Below w.heap.size w W) => r6_Scale s A c xs B d ys E j f W (hn.below hb) (by omega) (hd.below hb) (by omega) (hR.below hb) (by omega))
  have hlen : (nform (smul (rv s xs ys) (fval f))).length ≤ f.length := by have := nform_len (smul (rv s xs ys) (fval f)); rwa [smul_length, fval_length] at this
  clear hn hd hg hr hf hR hms hml hmu hmf hpr
  generalize nform (smul (rv s xs ys) (fval f)) = l at *
  go_enter Try.func6, Try.ntmps6
  go_wp2_with fail
  have HF_ := Lib.hid HF.out.drew
  clear HF
  have HF := HF_
  clear HF_
  refine start_ (n := 8) (S := fun w' => w'.cell? ⟨w.heap.size, 0, none⟩ = some (.bool s) ∧ w'.cell? ⟨w.heap.size, 1, none⟩ = some (.slice A xs.length c) ∧ w'.cell? ⟨w.heap.size, 2, none⟩ = some (.slice B ys.length d)) (ds := []) #[false, false, false, false, false, false, false, false] (by kernel_rfl) rfl rfl ⟨HF.out.cellN 0 rfl 0 rfl, HF.out.cellN 0 rfl 1 rfl, HF.out.cellN 0 rfl 2 rfl⟩ (fun hHeld => ?_)
  generalize World.drew _ = W at *
  refine pure_ (i := 1) (N := (some 6)) (v := ?_) (a' := ?_) #[false, true, false, false, false, false, false, false] rfl rfl (by kernel_rfl) (fun _ _ _ h => h) (Or.inl ⟨by rfl, ?_⟩) ?_ ?_
  rotate_left
  · intro w'
    go_simp
    with_reducible rfl
  rotate_left
  · simp only [Act.put, List.setIfInBounds_toArray, List.set_cons_zero, List.set_cons_succ]
    rfl
  refine pure_ (i := 4) (N := (some 9)) (v := ?_) (a' := ?_) #[false, true, false, false, true, false, false, false] rfl rfl (by kernel_rfl) (fun _ _ _ h => h) (Or.inl ⟨by rfl, ?_⟩) ?_ ?_
  rotate_left
  · intro w'
    go_simp
    with_reducible rfl
  rotate_left
  · simp only [Act.put, List.setIfInBounds_toArray, List.set_cons_zero, List.set_cons_succ]
    rfl
  refine take_ (i := 0) (N := (some 5)) (v := ?_) (a' := ?_) #[true, true, false, false, true, false, false, false] rfl rfl (by kernel_rfl) (fun _ _ _ h => h) (Or.inl ⟨by rfl, ?_⟩) hHeld ?_ ?_
  rotate_left
  · rintro w' ⟨s0, s1, s2⟩
    go_simp
    with_reducible rfl
  rotate_left
  · simp only [Act.put, List.setIfInBounds_toArray, List.set_cons_zero, List.set_cons_succ]
    rfl
  refine take_ (i := 3) (N := (some 8)) (v := ?_) (a' := ?_) #[true, true, false, true, true, false, false, false] rfl rfl (by kernel_rfl) (fun _ _ _ h => h) (Or.inl ⟨by rfl, ?_⟩) hHeld ?_ ?_
  rotate_left
  · rintro w' ⟨s0, s1, s2⟩
    go_simp
    with_reducible rfl
  rotate_left
  · simp only [Act.put, List.setIfInBounds_toArray, List.set_cons_zero, List.set_cons_succ]
    rfl
  refine one_ (i := 2) (N := (some 7)) #[true, true, true, true, true, false, false, false] rfl rfl (by kernel_rfl) (by decide) (fun K hK => ?_)
  refine goes_ Try.func25 (by kernel_rfl) rfl #[.agg #[.bool s, .slice A xs.length c, .slice B ys.length d], .slice E f.length j] (by rfl) rfl rfl (by (try simp only [List.map_toArray, List.map_cons, List.map_nil]); first | done | rfl) ?_
  refine (hL.out W HF.out.bel).mono ?_
  rintro e W1 ⟨v, rfl, h1, h2⟩
  refine ⟨_, rfl, ?_⟩
  obtain ⟨A1, c1, rfl, h3⟩ := h1.fin
  have Q1 := Lib.hid h3
  replace HF := Lib.hid (HF.out.below h2)
  clear h1 h2 h3
  refine hK.out _ _ ⟨HF.out.cellN 0 rfl 0 rfl, HF.out.cellN 0 rfl 1 rfl, HF.out.cellN 0 rfl 2 rfl⟩ (fun hHeld => ?_)
  clear hK K
  refine norm_ (a' := ?_) ?_ ?_
  rotate_left
  · show Act.put _ (some 7) _ = _
    simp only [Act.put, List.setIfInBounds_toArray, List.set_cons_zero, List.set_cons_succ]
    rfl
  refine one_ (i := 5) (N := (some 10)) #[true, true, true, true, true, true, false, false] rfl rfl (by kernel_rfl) (by decide) (fun K hK => ?_)
  refine goes_ Try.func26 (by kernel_rfl) rfl #[.agg #[.bool s, .slice A xs.length c, .slice B ys.length d], .slice E f.length j] (by rfl) rfl rfl (by (try simp only [List.map_toArray, List.map_cons, List.map_nil]); first | done | rfl) ?_
  refine (hS.out W1 HF.out.bel).mono ?_
  rintro e W2 ⟨v, rfl, h1, h2⟩
  refine ⟨_, rfl, ?_⟩
  obtain ⟨A2, c2, rfl, h3⟩ := h1.fin
  have Q2 := Lib.hid h3
  replace Q1 := Lib.hid (Q1.out.below h2)
  replace HF := Lib.hid (HF.out.below h2)
  clear h1 h2 h3
  refine hK.out _ _ ⟨HF.out.cellN 0 rfl 0 rfl, HF.out.cellN 0 rfl 1 rfl, HF.out.cellN 0 rfl 2 rfl⟩ (fun hHeld => ?_)
  clear hK K
  refine norm_ (a' := ?_) ?_ ?_
  rotate_left
  · show Act.put _ (some 10) _ = _
    simp only [Act.put, List.setIfInBounds_toArray, List.set_cons_zero, List.set_cons_succ]
    rfl
  refine one_ (i := 6) (N := (some 11)) #[true, true, true, true, true, true, true, false] rfl rfl (by kernel_rfl) (by decide) (fun K hK => ?_)
  refine goes_ Try.func24 (by kernel_rfl) rfl #[.slice A1 l.length c1, .slice A2 l.length c2] (by rfl) rfl rfl (by (try simp only [List.map_toArray, List.map_cons, List.map_nil]); first | done | rfl) ?_
  refine (same_FormB A1 c1 A2 c2 l l W2 Q1.out Q2.out (by omega) (by omega)).mono ?_
  rintro e W3 ⟨rfl, h2⟩
  refine ⟨_, rfl, ?_⟩
  replace HF := Lib.hid (HF.out.below h2)
  clear h2
  rw [decide_eq_true (rfl : l = l)]
  refine hK.out _ _ ⟨HF.out.cellN 0 rfl 0 rfl, HF.out.cellN 0 rfl 1 rfl, HF.out.cellN 0 rfl 2 rfl⟩ (fun hHeld => ?_)
  clear hK K
  refine norm_ (a' := ?_) ?_ ?_
  rotate_left
  · show Act.put _ (some 11) _ = _
    simp only [Act.put, List.setIfInBounds_toArray, List.set_cons_zero, List.set_cons_succ]
    rfl
  refine pure_ (i := 7) (N := (some 4)) (v := ?_) (a' := ?_) #[true, true, true, true, true, true, true, true] rfl rfl (by kernel_rfl) (fun _ _ _ h => h) (Or.inl ⟨by rfl, ?_⟩) ?_ ?_
  rotate_left
  · intro w'
    go_simp
    with_reducible rfl
  rotate_left
  · simp only [Act.put, List.setIfInBounds_toArray, List.set_cons_zero, List.set_cons_succ]
    rfl
  refine done_ (by kernel_rfl) ?_
  go_wp2
  go_ret
  exact ⟨rfl, HF.out.bel⟩
end Go.Proofs.Ytchdoignomidjaa.F
namespace Go.Proofs.Ytchdoignomidjaa.scales
open Go.ChangeShapes Go.WideShapes Go.ChangeAt Go.RowKit
open Go.Proofs.Ytchdoignomidjaa.F

set_option maxRecDepth 100000 in
theorem contract (H : Type) (enc : TypeId × Value → H) (W : World) (base : Nat) (args : Array Value) (ds gs : List (DataW H)) (before : List MemPlace)
    (hval : ∀ (j : Nat) t v, Try.f6.params[j]? = some t → args[j]? = some v → Value.okWide Try.prog W .any base t v)
    (hW : DataW.Whole enc Try.prog Try.f6.params.toList Rows.linearScalesSpec.vars false W args.toList ds gs before) (hk : Rows.uptoSmall H (ds ++ gs) = true) :
    Calls Try.prog 6 args W fun e W' => ∃ v, e = .returned v ∧ Rows.linearScalesSpec.post enc Try.prog Try.f6 false true false false W args v W' := by
  have hW' := hW
  obtain ⟨p, q, hA0, hV, rfl, hfz, hnd⟩ := hW
  have hA : DataW.TrodAll enc Try.prog W 0 (fun _ => true) true Try.f6.params.toList args.toList ds p := hA0
  rw [Try.params6] at hA hval
  obtain ⟨v0, vs0, d0, ds0, p0, q0, hargs, rfl, rfl, h0, r0⟩ := trodAll_cons hA
  obtain ⟨v1, vs1, d1, ds1, p1, q1, rfl, rfl, rfl, h1, r1⟩ := trodAll_cons r0
  obtain ⟨rfl, rfl, rfl⟩ := trodAll_nil r1
  obtain rfl : args = #[v0, v1] := by cases args; simp_all
  obtain ⟨rfl, rfl⟩ := trodVars_none hV
  obtain ⟨cs0, rfl, hz0⟩ := okWide_struct Try.underlying31 (hval 0 31 v0 rfl rfl)
  have k0 := h0
  have lt0 : ∀ x ∈ p0, x.block < W.heap.size := by obtain ⟨m, hm⟩ := k0; exact DataW.trod_lt m _ _ _ hm
  obtain ⟨m0, g0⟩ := h0
  obtain ⟨x, hC0, ok0⟩ := opens_Rat H enc W m0 _ _ g0
  obtain ⟨a1, len1, cap1, rfl⟩ := okWide_slice Try.underlying23 (hval 1 23 v1 rfl rfl)
  have k1 := h1
  have lt1 : ∀ x ∈ p1, x.block < W.heap.size := by obtain ⟨m, hm⟩ := k1; exact DataW.trod_lt m _ _ _ hm
  obtain ⟨m1, g1⟩ := h1
  obtain ⟨f, hC1, ok1⟩ := opens_Form H enc W m1 _ _ g1
  have hb : Rows.uptoBulkAll (H := H) [d0, d1] ≤ 1048576 := by
    have h2 := of_decide_eq_true hk
    simpa only [List.append_nil] using h2
  simp only [Rows.uptoBulkAll] at hb
  obtain ⟨B0, c0, D0, d0', e0, hq0⟩ := kRat_cells hC0
  obtain ⟨A1, c1, e1, hc1, hm1, hr1⟩ := hC1
  simp only [Value.cells] at e0
  simp [Value.cells] at e1
  obtain rfl : cs0 = #[.bool x.1.1, .slice B0 x.1.2.length c0, .slice D0 x.2.length d0'] := by cases cs0; simp_all
  obtain ⟨rfl, rfl, rfl⟩ := e1
  have w0 : wt x ≤ Rows.uptoBulk d0 := wt_rat ok0
  have w1 : (f.map wtm).sum + 1 ≤ Rows.uptoBulk d1 := wt_form ok1
  have hlaw := law_Scales x.1.1 B0 c0 x.1.2 D0 d0' x.2 a1 cap1 f W (hq0.num (good_rat ok0)) (hq0.den (good_rat ok0)) (good_rat ok0) hr1 hc1 (fun m hm => (ok_mem ok1 hm).elim fun d h => by obtain ⟨_, _, _, _, h⟩ := h; exact good_rat h) (by show wt x + _ ≤ _; omega)
  refine hlaw.mono fun e W' ⟨he, bel⟩ => ?_
  subst he
  exact ⟨_, rfl, _, _, _, [], _, [], hW', trodAll_mk1 (shut_bool Try.underlying4 _), (trodAll_cons_mk (Below.trod prog_laid (by kernel_rfl) (of_decide_eq_true (by kernel_rfl)) k0 bel lt0) (trodAll_cons_mk (Below.trod prog_laid (by kernel_rfl) (of_decide_eq_true (by kernel_rfl)) k1 bel lt1) trodAll_mk0)), rfl, bel.frame _, fun h => by cases h⟩

set_option maxRecDepth 100000 in
theorem lifted (os : Os) (started : os.Started) (H : Type) (enc : TypeId × Value → H) (F : Stop.Interp) :
    ReturnsInHanded {} Try.checked os 6 .any ((Rows.OpenSpec.upto Rows.linearScalesSpec).pre6 enc Try.prog Try.f6 Rows.linearScalesUptoRow.domain false) (((Rows.OpenSpec.upto Rows.linearScalesSpec).at F).post enc Try.prog Try.f6 false true false false) := by
  refine returnsInHanded_of_cond (C := Try.checked) (s := Rows.OpenSpec.upto Rows.linearScalesSpec) (k := Rows.uptoSmall) rfl prog_own started (by kernel_rfl) Try.func6
    (OpenSpec.witness (enc := enc) (C := Try.checked) (s := Rows.OpenSpec.upto Rows.linearScalesSpec) (k := Rows.uptoSmall) rfl false ⟨#[], #[.agg #[.bool false, .slice none 0 0, .slice none 0 0], .slice none 0 0], []⟩ 8 (by kernel_rfl) (by kernel_rfl) (by kernel_rfl)
      (x := ([.agg [.agg [.lit (.bool false), .nil], .nil], .nil], [], [])) (by kernel_rfl) rfl (by kernel_rfl)) ?_
  intro W base args ds gs before hval hW _ hk _
  exact contract H enc W base args ds gs before hval hW hk

theorem over : Rows.LinearScalesUptoSaid :=
  OpenClaim.holds_of_cond 6 Try.f6 rfl rfl rfl rfl rfl rfl rfl ⟨rfl, rfl, rfl, rfl, rfl⟩ rfl rfl rfl rfl rfl (by kernel_rfl) Try.func6 (by kernel_rfl)
    (of_decide_eq_true (by kernel_rfl)) (by unfold Func.isWrapper; first | (rw [if_pos (by decide +kernel)]; kernel_rfl) | (rw [if_neg (by decide +kernel)]; exact ⟨rfl, rfl⟩))
    (fun os started H enc _ F => lifted os started H enc F)
end Go.Proofs.Ytchdoignomidjaa.scales
namespace Go.Proofs.Ytchdoignomidjaa
theorem linearScales_holds : Rows.LinearScalesUptoSaid := scales.over
#print axioms linearScales_holds
end Go.Proofs.Ytchdoignomidjaa

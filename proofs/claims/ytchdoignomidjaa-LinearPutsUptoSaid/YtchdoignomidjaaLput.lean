/- LinearPuts: for every two affine forms and every variable of bulk at most 1048576 together, Subst and Solve tell what the reference tells; the arguments read as they did. -/
import Derived.Test.YtchdoignomidjaaPud
set_option linter.unusedVariables false
set_option linter.unusedSimpArgs false
namespace Go.Proofs.Ytchdoignomidjaa.F
open Go.RowKit Go.Shelf Go.Proofs.YtchdoignomidjaaW.PrintLast

set_option maxHeartbeats 4000000 in
set_option maxRecDepth 100000 in
theorem law_Puts (A : Option Addr) (c : Nat) (f : List (Int × RatD)) (s1 : Bool) (A1 : Option Addr) (c1 : Nat) (x1 : List Int) (B1 : Option Addr) (d1 : Nat) (y1 : List Int) (v : Int) (A2 : Option Addr) (c2 : Nat) (g : List (Int × RatD)) (s2 : Bool) (A3 : Option Addr) (c3 : Nat) (x2 : List Int) (B3 : Option Addr) (d3 : Nat) (y2 : List Int) (w : World)
    (hr : kMono.Row w A f) (hc : f.length ≤ c) (hl1 : LiesQ w ((s1, x1), y1) A1 c1 B1 d1) (hr2 : kMono.Row w A2 g) (hc2 : g.length ≤ c2) (hl2 : LiesQ w ((s2, x2), y2) A3 c3 B3 d3)
    (gf : GoodA (f, (s1, x1), y1)) (gg : GoodA (g, (s2, x2), y2)) (hb : wtA (f, (s1, x1), y1) + wtA (g, (s2, x2), y2) ≤ 1048576) :
    Calls Try.prog 14 #[.agg #[.slice A f.length c, .bool s1, .slice A1 x1.length c1, .slice B1 y1.length d1], .int .i64 v, .agg #[.slice A2 g.length c2, .bool s2, .slice A3 x2.length c3, .slice B3 y2.length d3]] w fun e w' => e = .returned (.bool true) ∧ Below w.heap.size w w' := by
  unfold wtA at hb
  dsimp only at hb
  have hlf : f.length * 7 ≤ (f.map wtm).sum := len_le_sum f fun m _ => wtm7 m
  have hlg : g.length * 7 ≤ (g.map wtm).sum := len_le_sum g fun m _ => wtm7 m
  have hlr : (fr v f).length * 7 ≤ ((fr v f).map wtm).sum := len_le_sum (fr v f) fun m _ => wtm7 m
  have n1 := gf.const.mn
  have n2 := gf.const.md
  have n3 := gg.const.mn
  have n4 := gg.const.md
  dsimp only at n1 n2 n3 n4
  have u1 := mu_rq gf.const
  have u2 := mu_rq gg.const
  change mu (rv s1 x1 y1) ≤ _ at u1
  change mu (rv s2 x2 y2) ≤ _ at u2
  have hmf := mf_fval gf.form
  have hmg := mf_fval gg.form
  dsimp only at hmf hmg u1 u2
  have hsp := mu_split f gf.form v
  have hpg := prod_le2 (n := g.length) (V := mu (co (fval f) v)) (by omega)
  have hpf := prod_le2 (n := (fr v f).length) (V := mu (co (fval f) v)) (by omega)
  have g1 := mf_smul (co (fval f) v) (fval g)
  rw [fval_length] at g1
  have g2 := mf_nform (smul (co (fval f) v) (fval g))
  have f1 := mf_wout (nform (fval f)) v
  have f2 := mf_nform (fval f)
  have f3 := mf_wout (fval f) v
  have f4 := wout_len f v
  have f5 : (wout (fval f) v).length = (fr v f).length := by rw [← fval_fr, fval_length]
  have f6 := fr_length v f
  have f7 : (fval f).length = f.length := fval_length f
  have q1 := mu_mul (co (fval f) v) (rv s2 x2 y2)
  have q2 := mu_add (rv s1 x1 y1) (co (fval f) v * rv s2 x2 y2)
  have R : FRaw w A c f := FRaw.of hr hc gf.form (by omega)
  have T : FRaw w A2 c2 g := FRaw.of hr2 hc2 gg.form (by omega)
  have i1 := hl1.num gf.const
  have i2 := hl1.den gf.const
  have i3 := hl2.num gg.const
  have i4 := hl2.den gg.const
  have hS1 := Lib.hid (fun (W : World) (hb : Below w.heap.size w W) => linear_Subst A c f s1 A1 c1 x1 B1 d1 y1 v A2 c2 g s2 A3 c3 x2 B3 d3 y2 W (R.below hb) (T.below hb) (i1.below hb) (by omega) (i2.below hb) (by omega) (i3.below hb) (by omega) (i4.below hb) (by omega) (by omega) (by omega) (mu_ql (by omega)))
  have hS2 := Lib.hid (fun (W : World) (hb : Below w.heap.size w W) => r6_Subst A c f s1 A1 c1 x1 B1 d1 y1 v A2 c2 g s2 A3 c3 x2 B3 d3 y2 W (R.below hb) (T.below hb) (i1.below hb) (by omega) (i2.below hb) (by omega) (i3.below hb) (by omega) (i4.below hb) (by omega) (by omega) (by omega) (mu_ql (by omega)))
  have sl := nform_len (wout (nform (fval f)) v ++ smul (co (fval f) v) (fval g))
  rw [List.length_append, smul_length, fval_length] at sl
  have sl' : (nform (wout (nform (fval f)) v ++ smul (co (fval f) v) (fval g))).length ≤ 1099511627776 := by omega
  have sm := mu_len (rv s1 x1 y1 + co (fval f) v * rv s2 x2 y2)
  have hA1 := Lib.hid (fun (W : World) (E1 : Option Addr) (j1 : Nat) (A4 : Option Addr) (c4 : Nat) (B4 : Option Addr) (d4 : Nat) (E2 : Option Addr) (j2 : Nat) (A5 : Option Addr) (c5 : Nat) (B5 : Option Addr) (d5 : Nat) (k1 : FIn W E1 j1 (nform (wout (nform (fval f)) v ++ smul (co (fval f) v) (fval g)))) (k2 : InQ W A4 c4 B4 d4 (rv s1 x1 y1 + co (fval f) v * rv s2 x2 y2)) (k3 : FIn W E2 j2 (nform (wout (nform (fval f)) v ++ smul (co (fval f) v) (fval g)))) (k4 : InQ W A5 c5 B5 d5 (rv s1 x1 y1 + co (fval f) v * rv s2 x2 y2)) => same_Aff _ _ E1 j1 A4 c4 B4 d4 E2 j2 A5 c5 B5 d5 W k1 k2 k3 k4 sl' (by omega) (by omega))
  have HF := Lib.hid (((Fr.refl w).box [.slice A f.length c, .bool s1, .slice A1 x1.length c1, .slice B1 y1.length d1] 60).box [.slice A2 g.length c2, .bool s2, .slice A3 x2.length c3, .slice B3 y2.length d3] 60)
  have hsz : ∀ (w : World) (o : Obj), (w.alloc o).heap.size = w.heap.size + 1 := fun w o => by simp
  simp only [hsz, Nat.add_assoc, Nat.reduceAdd] at HF
  clear hsz
  by_cases hz : co (fval f) v = 0
  · have hX1 := Lib.hid (fun (W : World) (hb : Below w.heap.size w W) => linear_Solve_none A c f s1 A1 c1 x1 B1 d1 y1 v W (R.below hb) (by omega) hz)
    have hX2 := Lib.hid (fun (W : World) (hb : Below w.heap.size w W) => r6_Solve_none A c f s1 A1 c1 x1 B1 d1 y1 v W (R.below hb) (by omega) hz)
    have hX3 := Lib.hid (fun (W : World) => same_Aff_nil W)
    clear hr hc hl1 hr2 hc2 hl2 gf gg hb hlf hlg hlr n1 n2 n3 n4 u1 u2 hmf hmg hsp hpg hpf g1 g2 f1 f2 f3 f4 f5 f6 f7 q1 q2 R T i1 i2 i3 i4 sl sl' sm hz
    generalize nform (wout (nform (fval f)) v ++ smul (co (fval f) v) (fval g)) = l at *
    generalize rv s1 x1 y1 + co (fval f) v * rv s2 x2 y2 = q at *
    go_enter Try.func14, Try.ntmps14
    go_wp2_with fail
    generalize World.alloc _ _ = W at HF ⊢
    have HF_ := Lib.hid HF.out.drew
    clear HF
    have HF := HF_
    clear HF_
    refine start_ (n := 10) (S := fun w' => w'.cell? ⟨w.heap.size, 0, none⟩ = some (.slice A f.length c) ∧ w'.cell? ⟨w.heap.size, 1, none⟩ = some (.bool s1) ∧ w'.cell? ⟨w.heap.size, 2, none⟩ = some (.slice A1 x1.length c1) ∧ w'.cell? ⟨w.heap.size, 3, none⟩ = some (.slice B1 y1.length d1) ∧ w'.cell? ⟨w.heap.size + 1, 0, none⟩ = some (.slice A2 g.length c2) ∧ w'.cell? ⟨w.heap.size + 1, 1, none⟩ = some (.bool s2) ∧ w'.cell? ⟨w.heap.size + 1, 2, none⟩ = some (.slice A3 x2.length c3) ∧ w'.cell? ⟨w.heap.size + 1, 3, none⟩ = some (.slice B3 y2.length d3)) (ds := []) #[false, false, false, false, false, false, false, false, false, false] (by kernel_rfl) rfl rfl ⟨HF.out.cellN 1 rfl 0 rfl, HF.out.cellN 1 rfl 1 rfl, HF.out.cellN 1 rfl 2 rfl, HF.out.cellN 1 rfl 3 rfl, HF.out.cellN 0 rfl 0 rfl, HF.out.cellN 0 rfl 1 rfl, HF.out.cellN 0 rfl 2 rfl, HF.out.cellN 0 rfl 3 rfl⟩ (fun hHeld => ?_)
    generalize World.drew _ = W at *
    refine pure_ (i := 1) (N := (some 12)) (v := ?_) (a' := ?_) #[false, true, false, false, false, false, false, false, false, false] rfl rfl (by kernel_rfl) (fun _ _ _ h => h) (Or.inl ⟨by rfl, ?_⟩) ?_ ?_
    rotate_left
    · intro w'
      go_simp
      with_reducible rfl
    rotate_left
    · simp only [Act.put, List.setIfInBounds_toArray, List.set_cons_zero, List.set_cons_succ]
      rfl
    refine pure_ (i := 5) (N := (some 16)) (v := ?_) (a' := ?_) #[false, true, false, false, false, true, false, false, false, false] rfl rfl (by kernel_rfl) (fun _ _ _ h => h) (Or.inl ⟨by rfl, ?_⟩) ?_ ?_
    rotate_left
    · intro w'
      go_simp
      with_reducible rfl
    rotate_left
    · simp only [Act.put, List.setIfInBounds_toArray, List.set_cons_zero, List.set_cons_succ]
      rfl
    refine take_ (i := 0) (N := (some 11)) (v := ?_) (a' := ?_) #[true, true, false, false, false, true, false, false, false, false] rfl rfl (by kernel_rfl) (fun _ _ _ h => h) (Or.inl ⟨by rfl, ?_⟩) hHeld ?_ ?_
    rotate_left
    · rintro w' ⟨s0, s1, s2, s3, s4, s5, s6, s7⟩
      go_simp
      with_reducible rfl
    rotate_left
    · simp only [Act.put, List.setIfInBounds_toArray, List.set_cons_zero, List.set_cons_succ]
      rfl
    refine take_ (i := 2) (N := (some 13)) (v := ?_) (a' := ?_) #[true, true, true, false, false, true, false, false, false, false] rfl rfl (by kernel_rfl) (fun _ _ _ h => h) (Or.inl ⟨by rfl, ?_⟩) hHeld ?_ ?_
    rotate_left
    · rintro w' ⟨s0, s1, s2, s3, s4, s5, s6, s7⟩
      go_simp
      with_reducible rfl
    rotate_left
    · simp only [Act.put, List.setIfInBounds_toArray, List.set_cons_zero, List.set_cons_succ]
      rfl
    refine take_ (i := 4) (N := (some 15)) (v := ?_) (a' := ?_) #[true, true, true, false, true, true, false, false, false, false] rfl rfl (by kernel_rfl) (fun _ _ _ h => h) (Or.inl ⟨by rfl, ?_⟩) hHeld ?_ ?_
    rotate_left
    · rintro w' ⟨s0, s1, s2, s3, s4, s5, s6, s7⟩
      go_simp
      with_reducible rfl
    rotate_left
    · simp only [Act.put, List.setIfInBounds_toArray, List.set_cons_zero, List.set_cons_succ]
      rfl
    refine take_ (i := 6) (N := (some 17)) (v := ?_) (a' := ?_) #[true, true, true, false, true, true, true, false, false, false] rfl rfl (by kernel_rfl) (fun _ _ _ h => h) (Or.inl ⟨by rfl, ?_⟩) hHeld ?_ ?_
    rotate_left
    · rintro w' ⟨s0, s1, s2, s3, s4, s5, s6, s7⟩
      go_simp
      with_reducible rfl
    rotate_left
    · simp only [Act.put, List.setIfInBounds_toArray, List.set_cons_zero, List.set_cons_succ]
      rfl
    refine one_ (i := 3) (N := (some 14)) #[true, true, true, true, true, true, true, false, false, false] rfl rfl (by kernel_rfl) (by decide) (fun K hK => ?_)
    refine goes_ Try.func54 (by kernel_rfl) rfl #[.agg #[.slice A f.length c, .bool s1, .slice A1 x1.length c1, .slice B1 y1.length d1], .int .i64 v, .agg #[.slice A2 g.length c2, .bool s2, .slice A3 x2.length c3, .slice B3 y2.length d3]] (by rfl) rfl rfl (by (try simp only [List.map_toArray, List.map_cons, List.map_nil]); first | done | rfl) ?_
    refine (hS1.out W HF.out.bel).mono ?_
    rintro e W1 ⟨E4, e4, A4, c4, B4, d4, rfl, h1, h3, h2⟩
    refine ⟨_, rfl, ?_⟩
    have Q4 := Lib.hid h1.fin'
    have P4 := Lib.hid h3
    replace HF := Lib.hid (HF.out.below h2)
    clear h1 h2 h3 hS1
    refine hK.out _ _ ⟨HF.out.cellN 1 rfl 0 rfl, HF.out.cellN 1 rfl 1 rfl, HF.out.cellN 1 rfl 2 rfl, HF.out.cellN 1 rfl 3 rfl, HF.out.cellN 0 rfl 0 rfl, HF.out.cellN 0 rfl 1 rfl, HF.out.cellN 0 rfl 2 rfl, HF.out.cellN 0 rfl 3 rfl⟩ (fun hHeld => ?_)
    clear hK K
    refine norm_ (a' := ?_) ?_ ?_
    rotate_left
    · show Act.put _ (some 14) _ = _
      simp only [Act.put, List.setIfInBounds_toArray, List.set_cons_zero, List.set_cons_succ]
      rfl
    refine one_ (i := 7) (N := (some 18)) #[true, true, true, true, true, true, true, true, false, false] rfl rfl (by kernel_rfl) (by decide) (fun K hK => ?_)
    refine goes_ Try.func55 (by kernel_rfl) rfl #[.agg #[.slice A f.length c, .bool s1, .slice A1 x1.length c1, .slice B1 y1.length d1], .int .i64 v, .agg #[.slice A2 g.length c2, .bool s2, .slice A3 x2.length c3, .slice B3 y2.length d3]] (by rfl) rfl rfl (by (try simp only [List.map_toArray, List.map_cons, List.map_nil]); first | done | rfl) ?_
    refine (hS2.out W1 HF.out.bel).mono ?_
    rintro e W2 ⟨E5, e5, A5, c5, B5, d5, rfl, h1, h3, h2⟩
    refine ⟨_, rfl, ?_⟩
    have Q5 := Lib.hid h1.fin'
    have P5 := Lib.hid h3
    replace Q4 := Lib.hid (Q4.out.below h2)
    replace P4 := Lib.hid (P4.out.below h2)
    replace HF := Lib.hid (HF.out.below h2)
    clear h1 h2 h3 hS2
    refine hK.out _ _ ⟨HF.out.cellN 1 rfl 0 rfl, HF.out.cellN 1 rfl 1 rfl, HF.out.cellN 1 rfl 2 rfl, HF.out.cellN 1 rfl 3 rfl, HF.out.cellN 0 rfl 0 rfl, HF.out.cellN 0 rfl 1 rfl, HF.out.cellN 0 rfl 2 rfl, HF.out.cellN 0 rfl 3 rfl⟩ (fun hHeld => ?_)
    clear hK K
    refine norm_ (a' := ?_) ?_ ?_
    rotate_left
    · show Act.put _ (some 18) _ = _
      simp only [Act.put, List.setIfInBounds_toArray, List.set_cons_zero, List.set_cons_succ]
      rfl
    refine one_ (i := 8) (N := (some 19)) #[true, true, true, true, true, true, true, true, true, false] rfl rfl (by kernel_rfl) (by decide) (fun K hK => ?_)
    refine goes_ Try.func35 (by kernel_rfl) rfl #[.agg #[.slice E4 l.length e4, .bool (decide (q.num < 0)), .slice A4 (dg q.num.natAbs).length c4, .slice B4 (dg q.den).length d4], .agg #[.slice E5 l.length e5, .bool (decide (q.num < 0)), .slice A5 (dg q.num.natAbs).length c5, .slice B5 (dg q.den).length d5]] (by rfl) rfl rfl (by (try simp only [List.map_toArray, List.map_cons, List.map_nil]); first | done | rfl) ?_
    refine (hA1.out W2 E4 e4 A4 c4 B4 d4 E5 e5 A5 c5 B5 d5 Q4.out P4.out Q5.out P5.out).mono ?_
    rintro e W3 ⟨rfl, h2⟩
    refine ⟨_, rfl, ?_⟩
    replace HF := Lib.hid (HF.out.below h2)
    clear h2 hA1 Q4 P4 Q5 P5
    refine hK.out _ _ ⟨HF.out.cellN 1 rfl 0 rfl, HF.out.cellN 1 rfl 1 rfl, HF.out.cellN 1 rfl 2 rfl, HF.out.cellN 1 rfl 3 rfl, HF.out.cellN 0 rfl 0 rfl, HF.out.cellN 0 rfl 1 rfl, HF.out.cellN 0 rfl 2 rfl, HF.out.cellN 0 rfl 3 rfl⟩ (fun hHeld => ?_)
    clear hK K
    refine norm_ (a' := ?_) ?_ ?_
    rotate_left
    · show Act.put _ (some 19) _ = _
      simp only [Act.put, List.setIfInBounds_toArray, List.set_cons_zero, List.set_cons_succ]
      rfl
    refine pure_ (i := 9) (N := (some 20)) (v := ?_) (a' := ?_) #[true, true, true, true, true, true, true, true, true, true] rfl rfl (by kernel_rfl) (fun _ _ _ h => h) (Or.inl ⟨by rfl, ?_⟩) ?_ ?_
    rotate_left
    · intro w'
      go_simp
      with_reducible rfl
    rotate_left
    · simp only [Act.put, List.setIfInBounds_toArray, List.set_cons_zero, List.set_cons_succ]
      rfl
    refine done_ (by kernel_rfl) ?_
    clear hHeld
    have b0 := HF.out.cellN 1 rfl 0 rfl
    have b1 := HF.out.cellN 1 rfl 1 rfl
    have b2 := HF.out.cellN 1 rfl 2 rfl
    have b3 := HF.out.cellN 1 rfl 3 rfl
    go_wp2_with fail
    refine (hX1.out _ HF.out.bel).mono ?_
    rintro e V1 ⟨rfl, h2⟩
    replace HF := Lib.hid (HF.out.below h2)
    clear h2 hX1 b0 b1 b2 b3
    have hw1 := HF.out.ltN 0 rfl
    replace HF := Lib.hid (HF.out.box [.slice none 0 0, .bool false, .slice none 0 0, .slice none 0 0] 60)
    have b0 := HF.out.cellN 2 rfl 0 rfl
    have b1 := HF.out.cellN 2 rfl 1 rfl
    have b2 := HF.out.cellN 2 rfl 2 rfl
    have b3 := HF.out.cellN 2 rfl 3 rfl
    go_wp2_with fail
    refine (hX2.out _ HF.out.bel).mono ?_
    rintro e V2 ⟨rfl, h2⟩
    replace HF := Lib.hid (HF.out.below h2)
    clear h2 hX2 b0 b1 b2 b3
    have hw2 := HF.out.ltN 0 rfl
    replace HF := Lib.hid (HF.out.box [.slice none 0 0, .bool false, .slice none 0 0, .slice none 0 0] 60)
    have b0 := HF.out.cellN 1 rfl 0 rfl
    have b1 := HF.out.cellN 1 rfl 1 rfl
    have b2 := HF.out.cellN 1 rfl 2 rfl
    have b3 := HF.out.cellN 1 rfl 3 rfl
    go_wp2_with fail
    refine (hX3.out _).mono ?_
    rintro e V3 ⟨rfl, h2⟩
    replace HF := Lib.hid (HF.out.below h2)
    clear h2 hX3 b0 b1 b2 b3
    go_wp2
    go_ret
    exact ⟨rfl, HF.out.bel⟩
  · have m1 := mu_inv hz
    have m2 := mu_neg (co (fval f) v)⁻¹
    have e1 := mf_smul (-(co (fval f) v)⁻¹) (wout (nform (fval f)) v)
    have e2 := mf_nform (smul (-(co (fval f) v)⁻¹) (wout (nform (fval f)) v))
    have e3 := mf_smul (-(co (fval f) v)⁻¹) (wout (fval f) v)
    rw [m2, m1] at e1 e3
    rw [f5] at e3
    have e4 : (wout (nform (fval f)) v).length * mu (co (fval f) v) ≤ (fr v f).length * mu (co (fval f) v) := Nat.mul_le_mul_right _ f4
    have e5 := mu_mul (-(co (fval f) v)⁻¹) (rv s1 x1 y1)
    rw [m2, m1] at e5
    have hX1 := Lib.hid (fun (W : World) (hb : Below w.heap.size w W) => linear_Solve_some A c f s1 A1 c1 x1 B1 d1 y1 v W (R.below hb) (i1.below hb) (by omega) (i2.below hb) (by omega) (by omega) (by omega) hz (by omega) (mu_ql (by omega)))
    have hX2 := Lib.hid (fun (W : World) (hb : Below w.heap.size w W) => r6_Solve_some A c f s1 A1 c1 x1 B1 d1 y1 v W (R.below hb) (i1.below hb) (by omega) (i2.below hb) (by omega) (by omega) (by omega) hz (by omega))
    have xl := nform_len (smul (-(co (fval f) v)⁻¹) (wout (nform (fval f)) v))
    rw [smul_length] at xl
    have xl' : (nform (smul (-(co (fval f) v)⁻¹) (wout (nform (fval f)) v))).length ≤ 1099511627776 := by omega
    have xm := mu_len (-(co (fval f) v)⁻¹ * rv s1 x1 y1)
    have xm1 : (dg (-(co (fval f) v)⁻¹ * rv s1 x1 y1).num.natAbs).length ≤ 1099511627776 := by omega
    have xm2 : (dg (-(co (fval f) v)⁻¹ * rv s1 x1 y1).den).length ≤ 1099511627776 := by omega
    clear hr hc hl1 hr2 hc2 hl2 gf gg hb hlf hlg hlr n1 n2 n3 n4 u1 u2 hmf hmg hsp hpg hpf g1 g2 f1 f2 f3 f4 f5 f6 f7 q1 q2 R T i1 i2 i3 i4 sl sl' sm hz m1 m2 e1 e2 e3 e4 e5 xl xm
    generalize nform (wout (nform (fval f)) v ++ smul (co (fval f) v) (fval g)) = l at *
    generalize rv s1 x1 y1 + co (fval f) v * rv s2 x2 y2 = q at *
    generalize nform (smul (-(co (fval f) v)⁻¹) (wout (nform (fval f)) v)) = n at *
    generalize -(co (fval f) v)⁻¹ * rv s1 x1 y1 = r at *
    go_enter Try.func14, Try.ntmps14
    go_wp2_with fail
    generalize World.alloc _ _ = W at HF ⊢
    have HF_ := Lib.hid HF.out.drew
    clear HF
    have HF := HF_
    clear HF_
    refine start_ (n := 10) (S := fun w' => w'.cell? ⟨w.heap.size, 0, none⟩ = some (.slice A f.length c) ∧ w'.cell? ⟨w.heap.size, 1, none⟩ = some (.bool s1) ∧ w'.cell? ⟨w.heap.size, 2, none⟩ = some (.slice A1 x1.length c1) ∧ w'.cell? ⟨w.heap.size, 3, none⟩ = some (.slice B1 y1.length d1) ∧ w'.cell? ⟨w.heap.size + 1, 0, none⟩ = some (.slice A2 g.length c2) ∧ w'.cell? ⟨w.heap.size + 1, 1, none⟩ = some (.bool s2) ∧ w'.cell? ⟨w.heap.size + 1, 2, none⟩ = some (.slice A3 x2.length c3) ∧ w'.cell? ⟨w.heap.size + 1, 3, none⟩ = some (.slice B3 y2.length d3)) (ds := []) #[false, false, false, false, false, false, false, false, false, false] (by kernel_rfl) rfl rfl ⟨HF.out.cellN 1 rfl 0 rfl, HF.out.cellN 1 rfl 1 rfl, HF.out.cellN 1 rfl 2 rfl, HF.out.cellN 1 rfl 3 rfl, HF.out.cellN 0 rfl 0 rfl, HF.out.cellN 0 rfl 1 rfl, HF.out.cellN 0 rfl 2 rfl, HF.out.cellN 0 rfl 3 rfl⟩ (fun hHeld => ?_)
    generalize World.drew _ = W at *
    refine pure_ (i := 1) (N := (some 12)) (v := ?_) (a' := ?_) #[false, true, false, false, false, false, false, false, false, false] rfl rfl (by kernel_rfl) (fun _ _ _ h => h) (Or.inl ⟨by rfl, ?_⟩) ?_ ?_
    rotate_left
    · intro w'
      go_simp
      with_reducible rfl
    rotate_left
    · simp only [Act.put, List.setIfInBounds_toArray, List.set_cons_zero, List.set_cons_succ]
      rfl
    refine pure_ (i := 5) (N := (some 16)) (v := ?_) (a' := ?_) #[false, true, false, false, false, true, false, false, false, false] rfl rfl (by kernel_rfl) (fun _ _ _ h => h) (Or.inl ⟨by rfl, ?_⟩) ?_ ?_
    rotate_left
    · intro w'
      go_simp
      with_reducible rfl
    rotate_left
    · simp only [Act.put, List.setIfInBounds_toArray, List.set_cons_zero, List.set_cons_succ]
      rfl
    refine take_ (i := 0) (N := (some 11)) (v := ?_) (a' := ?_) #[true, true, false, false, false, true, false, false, false, false] rfl rfl (by kernel_rfl) (fun _ _ _ h => h) (Or.inl ⟨by rfl, ?_⟩) hHeld ?_ ?_
    rotate_left
    · rintro w' ⟨s0, s1, s2, s3, s4, s5, s6, s7⟩
      go_simp
      with_reducible rfl
    rotate_left
    · simp only [Act.put, List.setIfInBounds_toArray, List.set_cons_zero, List.set_cons_succ]
      rfl
    refine take_ (i := 2) (N := (some 13)) (v := ?_) (a' := ?_) #[true, true, true, false, false, true, false, false, false, false] rfl rfl (by kernel_rfl) (fun _ _ _ h => h) (Or.inl ⟨by rfl, ?_⟩) hHeld ?_ ?_
    rotate_left
    · rintro w' ⟨s0, s1, s2, s3, s4, s5, s6, s7⟩
      go_simp
      with_reducible rfl
    rotate_left
    · simp only [Act.put, List.setIfInBounds_toArray, List.set_cons_zero, List.set_cons_succ]
      rfl
    refine take_ (i := 4) (N := (some 15)) (v := ?_) (a' := ?_) #[true, true, true, false, true, true, false, false, false, false] rfl rfl (by kernel_rfl) (fun _ _ _ h => h) (Or.inl ⟨by rfl, ?_⟩) hHeld ?_ ?_
    rotate_left
    · rintro w' ⟨s0, s1, s2, s3, s4, s5, s6, s7⟩
      go_simp
      with_reducible rfl
    rotate_left
    · simp only [Act.put, List.setIfInBounds_toArray, List.set_cons_zero, List.set_cons_succ]
      rfl
    refine take_ (i := 6) (N := (some 17)) (v := ?_) (a' := ?_) #[true, true, true, false, true, true, true, false, false, false] rfl rfl (by kernel_rfl) (fun _ _ _ h => h) (Or.inl ⟨by rfl, ?_⟩) hHeld ?_ ?_
    rotate_left
    · rintro w' ⟨s0, s1, s2, s3, s4, s5, s6, s7⟩
      go_simp
      with_reducible rfl
    rotate_left
    · simp only [Act.put, List.setIfInBounds_toArray, List.set_cons_zero, List.set_cons_succ]
      rfl
    refine one_ (i := 3) (N := (some 14)) #[true, true, true, true, true, true, true, false, false, false] rfl rfl (by kernel_rfl) (by decide) (fun K hK => ?_)
    refine goes_ Try.func54 (by kernel_rfl) rfl #[.agg #[.slice A f.length c, .bool s1, .slice A1 x1.length c1, .slice B1 y1.length d1], .int .i64 v, .agg #[.slice A2 g.length c2, .bool s2, .slice A3 x2.length c3, .slice B3 y2.length d3]] (by rfl) rfl rfl (by (try simp only [List.map_toArray, List.map_cons, List.map_nil]); first | done | rfl) ?_
    refine (hS1.out W HF.out.bel).mono ?_
    rintro e W1 ⟨E4, e4, A4, c4, B4, d4, rfl, h1, h3, h2⟩
    refine ⟨_, rfl, ?_⟩
    have Q4 := Lib.hid h1.fin'
    have P4 := Lib.hid h3
    replace HF := Lib.hid (HF.out.below h2)
    clear h1 h2 h3 hS1
    refine hK.out _ _ ⟨HF.out.cellN 1 rfl 0 rfl, HF.out.cellN 1 rfl 1 rfl, HF.out.cellN 1 rfl 2 rfl, HF.out.cellN 1 rfl 3 rfl, HF.out.cellN 0 rfl 0 rfl, HF.out.cellN 0 rfl 1 rfl, HF.out.cellN 0 rfl 2 rfl, HF.out.cellN 0 rfl 3 rfl⟩ (fun hHeld => ?_)
    clear hK K
    refine norm_ (a' := ?_) ?_ ?_
    rotate_left
    · show Act.put _ (some 14) _ = _
      simp only [Act.put, List.setIfInBounds_toArray, List.set_cons_zero, List.set_cons_succ]
      rfl
    refine one_ (i := 7) (N := (some 18)) #[true, true, true, true, true, true, true, true, false, false] rfl rfl (by kernel_rfl) (by decide) (fun K hK => ?_)
    refine goes_ Try.func55 (by kernel_rfl) rfl #[.agg #[.slice A f.length c, .bool s1, .slice A1 x1.length c1, .slice B1 y1.length d1], .int .i64 v, .agg #[.slice A2 g.length c2, .bool s2, .slice A3 x2.length c3, .slice B3 y2.length d3]] (by rfl) rfl rfl (by (try simp only [List.map_toArray, List.map_cons, List.map_nil]); first | done | rfl) ?_
    refine (hS2.out W1 HF.out.bel).mono ?_
    rintro e W2 ⟨E5, e5, A5, c5, B5, d5, rfl, h1, h3, h2⟩
    refine ⟨_, rfl, ?_⟩
    have Q5 := Lib.hid h1.fin'
    have P5 := Lib.hid h3
    replace Q4 := Lib.hid (Q4.out.below h2)
    replace P4 := Lib.hid (P4.out.below h2)
    replace HF := Lib.hid (HF.out.below h2)
    clear h1 h2 h3 hS2
    refine hK.out _ _ ⟨HF.out.cellN 1 rfl 0 rfl, HF.out.cellN 1 rfl 1 rfl, HF.out.cellN 1 rfl 2 rfl, HF.out.cellN 1 rfl 3 rfl, HF.out.cellN 0 rfl 0 rfl, HF.out.cellN 0 rfl 1 rfl, HF.out.cellN 0 rfl 2 rfl, HF.out.cellN 0 rfl 3 rfl⟩ (fun hHeld => ?_)
    clear hK K
    refine norm_ (a' := ?_) ?_ ?_
    rotate_left
    · show Act.put _ (some 18) _ = _
      simp only [Act.put, List.setIfInBounds_toArray, List.set_cons_zero, List.set_cons_succ]
      rfl
    refine one_ (i := 8) (N := (some 19)) #[true, true, true, true, true, true, true, true, true, false] rfl rfl (by kernel_rfl) (by decide) (fun K hK => ?_)
    refine goes_ Try.func35 (by kernel_rfl) rfl #[.agg #[.slice E4 l.length e4, .bool (decide (q.num < 0)), .slice A4 (dg q.num.natAbs).length c4, .slice B4 (dg q.den).length d4], .agg #[.slice E5 l.length e5, .bool (decide (q.num < 0)), .slice A5 (dg q.num.natAbs).length c5, .slice B5 (dg q.den).length d5]] (by rfl) rfl rfl (by (try simp only [List.map_toArray, List.map_cons, List.map_nil]); first | done | rfl) ?_
    refine (hA1.out W2 E4 e4 A4 c4 B4 d4 E5 e5 A5 c5 B5 d5 Q4.out P4.out Q5.out P5.out).mono ?_
    rintro e W3 ⟨rfl, h2⟩
    refine ⟨_, rfl, ?_⟩
    replace HF := Lib.hid (HF.out.below h2)
    clear h2 hA1 Q4 P4 Q5 P5
    refine hK.out _ _ ⟨HF.out.cellN 1 rfl 0 rfl, HF.out.cellN 1 rfl 1 rfl, HF.out.cellN 1 rfl 2 rfl, HF.out.cellN 1 rfl 3 rfl, HF.out.cellN 0 rfl 0 rfl, HF.out.cellN 0 rfl 1 rfl, HF.out.cellN 0 rfl 2 rfl, HF.out.cellN 0 rfl 3 rfl⟩ (fun hHeld => ?_)
    clear hK K
    refine norm_ (a' := ?_) ?_ ?_
    rotate_left
    · show Act.put _ (some 19) _ = _
      simp only [Act.put, List.setIfInBounds_toArray, List.set_cons_zero, List.set_cons_succ]
      rfl
    refine pure_ (i := 9) (N := (some 20)) (v := ?_) (a' := ?_) #[true, true, true, true, true, true, true, true, true, true] rfl rfl (by kernel_rfl) (fun _ _ _ h => h) (Or.inl ⟨by rfl, ?_⟩) ?_ ?_
    rotate_left
    · intro w'
      go_simp
      with_reducible rfl
    rotate_left
    · simp only [Act.put, List.setIfInBounds_toArray, List.set_cons_zero, List.set_cons_succ]
      rfl
    refine done_ (by kernel_rfl) ?_
    clear hHeld
    have b0 := HF.out.cellN 1 rfl 0 rfl
    have b1 := HF.out.cellN 1 rfl 1 rfl
    have b2 := HF.out.cellN 1 rfl 2 rfl
    have b3 := HF.out.cellN 1 rfl 3 rfl
    go_wp2_with fail
    refine (hX1.out _ HF.out.bel).mono ?_
    rintro e V1 ⟨E6, e6, A6, c6, B6, d6, rfl, h1, h3, h2⟩
    replace HF := Lib.hid (HF.out.below h2)
    have Q6 := Lib.hid h1.fin'
    have P6 := Lib.hid h3
    clear h1 h2 h3 hX1 b0 b1 b2 b3
    have hw1 := HF.out.ltN 0 rfl
    have hal := Lib.hid ((Below.refl _ V1).alloc (Nat.le_refl _) (.cells #[.slice E6 n.length e6, .bool (decide (r.num < 0)), .slice A6 (dg r.num.natAbs).length c6, .slice B6 (dg r.den).length d6] 60))
    replace HF := Lib.hid (HF.out.box [.slice E6 n.length e6, .bool (decide (r.num < 0)), .slice A6 (dg r.num.natAbs).length c6, .slice B6 (dg r.den).length d6] 60)
    replace Q6 := Lib.hid (Q6.out.below hal.out)
    replace P6 := Lib.hid (P6.out.below hal.out)
    clear hal
    have b0 := HF.out.cellN 2 rfl 0 rfl
    have b1 := HF.out.cellN 2 rfl 1 rfl
    have b2 := HF.out.cellN 2 rfl 2 rfl
    have b3 := HF.out.cellN 2 rfl 3 rfl
    go_wp2_with fail
    refine (hX2.out _ HF.out.bel).mono ?_
    rintro e V2 ⟨E7, e7, A7, c7, B7, d7, rfl, h1, h3, h2⟩
    replace HF := Lib.hid (HF.out.below h2)
    replace Q6 := Lib.hid (Q6.out.below h2)
    replace P6 := Lib.hid (P6.out.below h2)
    have Q7 := Lib.hid h1.fin'
    have P7 := Lib.hid h3
    clear h1 h2 h3 hX2 b0 b1 b2 b3
    have hw2 := HF.out.ltN 0 rfl
    have hal := Lib.hid ((Below.refl _ V2).alloc (Nat.le_refl _) (.cells #[.slice E7 n.length e7, .bool (decide (r.num < 0)), .slice A7 (dg r.num.natAbs).length c7, .slice B7 (dg r.den).length d7] 60))
    replace HF := Lib.hid (HF.out.box [.slice E7 n.length e7, .bool (decide (r.num < 0)), .slice A7 (dg r.num.natAbs).length c7, .slice B7 (dg r.den).length d7] 60)
    replace Q6 := Lib.hid (Q6.out.below hal.out)
    replace P6 := Lib.hid (P6.out.below hal.out)
    replace Q7 := Lib.hid (Q7.out.below hal.out)
    replace P7 := Lib.hid (P7.out.below hal.out)
    clear hal
    have hX3 := Lib.hid (same_Aff n r E6 e6 A6 c6 B6 d6 E7 e7 A7 c7 B7 d7 _ Q6.out P6.out Q7.out P7.out xl' xm1 xm2)
    have b0 := HF.out.cellN 1 rfl 0 rfl
    have b1 := HF.out.cellN 1 rfl 1 rfl
    have b2 := HF.out.cellN 1 rfl 2 rfl
    have b3 := HF.out.cellN 1 rfl 3 rfl
    go_wp2_with fail
    refine hX3.out.mono ?_
    rintro e V3 ⟨rfl, h2⟩
    replace HF := Lib.hid (HF.out.below h2)
    clear h2 hX3 b0 b1 b2 b3
    go_wp2
    go_ret
    exact ⟨rfl, HF.out.bel⟩
end Go.Proofs.Ytchdoignomidjaa.F
namespace Go.Proofs.Ytchdoignomidjaa.puts
open Go.ChangeShapes Go.WideShapes Go.ChangeAt Go.RowKit
open Go.Proofs.Ytchdoignomidjaa.F

set_option maxRecDepth 100000 in
theorem contract (H : Type) (enc : TypeId × Value → H) (W : World) (base : Nat) (args : Array Value) (ds gs : List (DataW H)) (before : List MemPlace)
    (hval : ∀ (j : Nat) t v, Try.f14.params[j]? = some t → args[j]? = some v → Value.okWide Try.prog W .any base t v)
    (hW : DataW.Whole enc Try.prog Try.f14.params.toList Rows.linearPutsSpec.vars false W args.toList ds gs before) (hk : Rows.uptoSmall H (ds ++ gs) = true) :
    Calls Try.prog 14 args W fun e W' => ∃ v, e = .returned v ∧ Rows.linearPutsSpec.post enc Try.prog Try.f14 false true false false W args v W' := by
  have hW' := hW
  obtain ⟨p, q, hA0, hV, rfl, hfz, hnd⟩ := hW
  have hA : DataW.TrodAll enc Try.prog W 0 (fun _ => true) true Try.f14.params.toList args.toList ds p := hA0
  rw [Try.params14] at hA hval
  obtain ⟨v0, vs0, d0, ds0, p0, q0, hargs, rfl, rfl, h0, r0⟩ := trodAll_cons hA
  obtain ⟨v1, vs1, d1, ds1, p1, q1, rfl, rfl, rfl, h1, r1⟩ := trodAll_cons r0
  obtain ⟨v2, vs2, d2, ds2, p2, q2, rfl, rfl, rfl, h2, r2⟩ := trodAll_cons r1
  obtain ⟨rfl, rfl, rfl⟩ := trodAll_nil r2
  obtain rfl : args = #[v0, v1, v2] := by cases args; simp_all
  obtain ⟨rfl, rfl⟩ := trodVars_none hV
  obtain ⟨cs0, rfl, hz0⟩ := okWide_struct Try.underlying60 (hval 0 60 v0 rfl rfl)
  have k0 := h0
  have lt0 : ∀ x ∈ p0, x.block < W.heap.size := by obtain ⟨m, hm⟩ := k0; exact DataW.trod_lt m _ _ _ hm
  obtain ⟨m0, g0⟩ := h0
  obtain ⟨f, hC0, ok0⟩ := opens_Affine H enc W m0 _ _ g0
  obtain ⟨n1, rfl⟩ := okWide_int Try.underlying3 (hval 1 3 v1 rfl rfl)
  have k1 := h1
  have lt1 : ∀ x ∈ p1, x.block < W.heap.size := by obtain ⟨m, hm⟩ := k1; exact DataW.trod_lt m _ _ _ hm
  obtain ⟨m1, g1⟩ := h1
  obtain ⟨v, hC1, ok1⟩ := opens_int (k := .i64) Try.underlying3 H enc W m1 _ _ g1
  obtain ⟨cs2, rfl, hz2⟩ := okWide_struct Try.underlying60 (hval 2 60 v2 rfl rfl)
  have k2 := h2
  have lt2 : ∀ x ∈ p2, x.block < W.heap.size := by obtain ⟨m, hm⟩ := k2; exact DataW.trod_lt m _ _ _ hm
  obtain ⟨m2, g2⟩ := h2
  obtain ⟨g, hC2, ok2⟩ := opens_Affine H enc W m2 _ _ g2
  have hb : Rows.uptoBulkAll (H := H) [d0, d1, d2] ≤ 1048576 := by
    have h2 := of_decide_eq_true hk
    simpa only [List.append_nil] using h2
  simp only [Rows.uptoBulkAll] at hb
  obtain ⟨A0, c0, B0, a0, D0, b0, e0, hc0, hr0, hq0⟩ := kAff_cells hC0
  obtain ⟨A2, c2, B2, a2, D2, b2, e2, hc2, hr2, hq2⟩ := kAff_cells hC2
  have e1 : (Value.cells (.int .i64 n1)).toList = [.int .i64 v] := hC1
  simp [Value.cells] at e1
  subst e1
  simp only [Value.cells] at e0 e2
  obtain rfl : cs0 = #[.slice A0 f.1.length c0, .bool f.2.1.1, .slice B0 f.2.1.2.length a0, .slice D0 f.2.2.length b0] := by cases cs0; simp_all
  obtain rfl : cs2 = #[.slice A2 g.1.length c2, .bool g.2.1.1, .slice B2 g.2.1.2.length a2, .slice D2 g.2.2.length b2] := by cases cs2; simp_all
  have w0 : wtA f ≤ Rows.uptoBulk d0 := wt_aff ok0
  have w2 : wtA g ≤ Rows.uptoBulk d2 := wt_aff ok2
  have hlaw := law_Puts A0 c0 f.1 f.2.1.1 B0 a0 f.2.1.2 D0 b0 f.2.2 n1 A2 c2 g.1 g.2.1.1 B2 a2 g.2.1.2 D2 b2 g.2.2 W hr0 hc0 hq0 hr2 hc2 hq2 (good_aff ok0) (good_aff ok2) (by show wtA f + wtA g ≤ _; omega)
  refine hlaw.mono fun e W' ⟨he, bel⟩ => ?_
  subst he
  exact ⟨_, rfl, _, _, _, [], _, [], hW', trodAll_mk1 (shut_bool Try.underlying4 _), (trodAll_cons_mk (Below.trod prog_laid (by kernel_rfl) (of_decide_eq_true (by kernel_rfl)) k0 bel lt0) (trodAll_cons_mk (Below.trod prog_laid (by kernel_rfl) (of_decide_eq_true (by kernel_rfl)) k1 bel lt1) (trodAll_cons_mk (Below.trod prog_laid (by kernel_rfl) (of_decide_eq_true (by kernel_rfl)) k2 bel lt2) trodAll_mk0))), rfl, bel.frame _, fun h => by cases h⟩

set_option maxRecDepth 100000 in
theorem lifted (os : Os) (started : os.Started) (H : Type) (enc : TypeId × Value → H) (F : Stop.Interp) :
    ReturnsInHanded {} Try.checked os 14 .any ((Rows.OpenSpec.upto Rows.linearPutsSpec).pre6 enc Try.prog Try.f14 Rows.linearPutsUptoRow.domain false) (((Rows.OpenSpec.upto Rows.linearPutsSpec).at F).post enc Try.prog Try.f14 false true false false) := by
  refine returnsInHanded_of_cond (C := Try.checked) (s := Rows.OpenSpec.upto Rows.linearPutsSpec) (k := Rows.uptoSmall) rfl prog_own started (by kernel_rfl) Try.func14
    (OpenSpec.witness (enc := enc) (C := Try.checked) (s := Rows.OpenSpec.upto Rows.linearPutsSpec) (k := Rows.uptoSmall) rfl false ⟨#[], #[.agg #[.slice none 0 0, .bool false, .slice none 0 0, .slice none 0 0], .int .i64 0, .agg #[.slice none 0 0, .bool false, .slice none 0 0, .slice none 0 0]], []⟩ 8 (by kernel_rfl) (by kernel_rfl) (by kernel_rfl)
      (x := ([.agg [.nil, .agg [.agg [.lit (.bool false), .nil], .nil]], .lit (.int .i64 0), .agg [.nil, .agg [.agg [.lit (.bool false), .nil], .nil]]], [], [])) (by kernel_rfl) rfl (by kernel_rfl)) ?_
  intro W base args ds gs before hval hW _ hk _
  exact contract H enc W base args ds gs before hval hW hk

theorem over : Rows.LinearPutsUptoSaid :=
  OpenClaim.holds_of_cond 14 Try.f14 rfl rfl rfl rfl rfl rfl rfl ⟨rfl, rfl, rfl, rfl, rfl⟩ rfl rfl rfl rfl rfl (by kernel_rfl) Try.func14 (by kernel_rfl)
    (of_decide_eq_true (by kernel_rfl)) (by unfold Func.isWrapper; first | (rw [if_pos (by decide +kernel)]; kernel_rfl) | (rw [if_neg (by decide +kernel)]; exact ⟨rfl, rfl⟩))
    (fun os started H enc _ F => lifted os started H enc F)
end Go.Proofs.Ytchdoignomidjaa.puts
namespace Go.Proofs.Ytchdoignomidjaa
theorem linearPuts_holds : Rows.LinearPutsUptoSaid := puts.over
#print axioms linearPuts_holds
end Go.Proofs.Ytchdoignomidjaa

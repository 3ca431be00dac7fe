/- LinearShapes: for every two forms and every rational of bulk at most 1048576 together, two forms are multiples of one another just if they have one shape; the arguments read as they did. -/
import Derived.Test.YtchdoignomidjaaShl
set_option linter.unusedVariables false
set_option linter.unusedSimpArgs false
namespace Go.Proofs.Ytchdoignomidjaa.F
open Go.RowKit Go.Shelf Go.Proofs.YtchdoignomidjaaW.PrintLast

set_option maxHeartbeats 1000000 in
set_option maxRecDepth 100000 in
theorem r3_Div_some (s : Bool) (A : Option Addr) (c : Nat) (xs : List Int) (B : Option Addr) (d : Nat) (ys : List Int) (t : Bool) (E : Option Addr) (j : Nat) (us : List Int) (G : Option Addr) (l : Nat) (vs : List Int) (w : World) (h1 : In w A c xs) (m1 : xs.length ≤ 137438953472) (h2 : In w B d ys) (m2 : ys.length ≤ 137438953472) (h3 : In w E j us) (m3 : us.length ≤ 137438953472) (h4 : In w G l vs) (m4 : vs.length ≤ 137438953472)
    (hz : rv t us vs ≠ 0) (hi : mu (rv t us vs)⁻¹ ≤ 137438953472) :
    Calls Try.prog 52 #[.agg #[.bool s, .slice A xs.length c, .slice B ys.length d], .agg #[.bool t, .slice E us.length j, .slice G vs.length l]] w (ToldE w (rv s xs ys * (rv t us vs)⁻¹)) := by
  have hI := Lib.hid (fun (W : World) (hb : Below w.heap.size w W) => (r3_Inv t E j us G l vs W (h3.below hb) (by omega) (h4.below hb) (by omega)).mono fun e w' h => h.2 hz)
  have il := mu_len (rv t us vs)⁻¹
  have hM := Lib.hid (show ∀ (W : World) (hb : Below w.heap.size w W) (A7 : Option Addr) (c7 : Nat) (B7 : Option Addr) (d7 : Nat), InQ W A7 c7 B7 d7 (rv t us vs)⁻¹ → Calls Try.prog 51 #[.agg #[.bool s, .slice A xs.length c, .slice B ys.length d], .agg #[.bool (decide ((rv t us vs)⁻¹.num < 0)), .slice A7 (dg (rv t us vs)⁻¹.num.natAbs).length c7, .slice B7 (dg (rv t us vs)⁻¹.den).length d7]] W (ToldQ W (rv s xs ys * (rv t us vs)⁻¹)) from fun W hb A7 c7 B7 d7 q => by
    have e := r3_Mul s A c xs B d ys (decide ((rv t us vs)⁻¹.num < 0)) A7 c7 _ B7 d7 _ W (h1.below hb) (by omega) (h2.below hb) (by omega) q.num (by omega) q.den (by omega)
    rw [rv_can] at e
    exact e)
  clear h1 h2 h3 h4 hz hi il
  generalize rv s xs ys * (rv t us vs)⁻¹ = p at *
  generalize (rv t us vs)⁻¹ = q at *
  have HF := Lib.hid ((((Fr.refl w).box [.bool s, .slice A xs.length c, .slice B ys.length d] 31).box [.bool t, .slice E us.length j, .slice G vs.length l] 31).box [.bool false, .slice none 0 0, .slice none 0 0] 31)
  have hsz : ∀ (w : World) (o : Obj), (w.alloc o).heap.size = w.heap.size + 1 := fun w o => by simp
  simp only [hsz, Nat.add_assoc, Nat.reduceAdd] at HF
  clear hsz
  go_enter Try.func52, Try.ntmps52
  go_wp2_with fail
  refine (hI.out _ HF.out.bel).mono ?_
  rintro e V1 ⟨A6, c6, B6, d6, rfl, q1, q2⟩
  replace HF := Lib.hid (HF.out.below q2)
  have Q6 := Lib.hid q1
  clear q1 q2 hI
  have hw2 := HF.out.ltN 0 rfl
  have hal := Lib.hid ((Below.refl _ V1).alloc (Nat.le_refl _) (.cells #[.bool (decide (q.num < 0)), .slice A6 (dg q.num.natAbs).length c6, .slice B6 (dg q.den).length d6] 31))
  replace Q6 := Lib.hid (Q6.out.below hal.out)
  replace HF := Lib.hid (HF.out.box [.bool (decide (q.num < 0)), .slice A6 (dg q.num.natAbs).length c6, .slice B6 (dg q.den).length d6] 31)
  clear hal
  have b0 := HF.out.cellN 3 rfl 0 rfl
  have b1 := HF.out.cellN 3 rfl 1 rfl
  have b2 := HF.out.cellN 3 rfl 2 rfl
  go_wp2_with fail
  refine (hM.out _ HF.out.bel A6 c6 B6 d6 Q6.out).mono ?_
  rintro e V2 ⟨A7, c7, B7, d7, rfl, q1, q2, q3⟩
  replace HF := Lib.hid (HF.out.below q3)
  have Q7 := Lib.hid (InQ.mk q1 q2)
  clear q1 q2 q3 hM Q6 b0 b1 b2
  have hf0 := HF.out.frozenN 1 rfl 0
  have hf1 := HF.out.frozenN 1 rfl 1
  have hf2 := HF.out.frozenN 1 rfl 2
  have hd0 := HF.out.cellN 1 rfl 0 rfl
  have hd1 := HF.out.cellN 1 rfl 1 rfl
  have hd2 := HF.out.cellN 1 rfl 2 rfl
  replace Q7 := Lib.hid (Q7.out.put3 (HF.out.ownN 1 rfl) (by simp) (a := .bool (decide (p.num < 0))) (by simp) (b := .slice A7 (dg p.num.natAbs).length c7) (by simp) (.slice B7 (dg p.den).length d7))
  replace HF := Lib.hid (HF.out.put3 1 rfl (by omega) (by simp <;> omega) (.bool (decide (p.num < 0))) (.slice A7 (dg p.num.natAbs).length c7) (.slice B7 (dg p.den).length d7))
  go_wp2
  exact post_own2 (HF.out.ownN 1 rfl) rfl rfl rfl rfl Try.underlying31 rfl (by kernel_rfl) ⟨_, _, _, _, rfl, Q7.out, HF.out.bel⟩

theorem decs_true {w : World} {b : Bool} (h : b = true) {e : Ending} {w' : World} (k : Decides w b e w') : Decides w true e w' := by subst h; exact k

set_option maxHeartbeats 16000000 in
set_option maxRecDepth 100000 in
theorem law_Shapes (sg : Bool) (A : Option Addr) (c : Nat) (xs : List Int) (B : Option Addr) (d : Nat) (ys : List Int) (E : Option Addr) (j : Nat) (f : List (Int × RatD)) (G : Option Addr) (l : Nat) (g : List (Int × RatD)) (w : World) (hn : In w A c xs) (hd : In w B d ys) (hgd : Good (wt ((sg, xs), ys)) ((sg, xs), ys)) (hr : kMono.Row w E f) (hc : f.length ≤ j) (kr : kMono.Row w G g) (kc : g.length ≤ l)
    (hf : ∀ m ∈ f, Good (wt m.2) m.2) (hg : ∀ m ∈ g, Good (wt m.2) m.2) (hb : wt ((sg, xs), ys) + (f.map wtm).sum + (g.map wtm).sum ≤ 1048576) :
    Calls Try.prog 12 #[.slice E f.length j, .slice G g.length l, .agg #[.bool sg, .slice A xs.length c, .slice B ys.length d]] w fun e w' => e = .returned (.bool true) ∧ Below w.heap.size w w' := by
  have hlf : f.length * 7 ≤ (f.map wtm).sum := len_le_sum f fun m _ => wtm7 m
  have mn := hgd.mn
  have md := hgd.md
  dsimp only at mn md
  have hmu := mu_rq hgd
  change mu (rv sg xs ys) ≤ _ at hmu
  have hmf := mf_fval hf
  have hpr := prod_le2 (n := f.length) (V := wt ((sg, xs), ys)) (by omega)
  have p1 : f.length * mu (rv sg xs ys) ≤ f.length * wt ((sg, xs), ys) := Nat.mul_le_mul_left _ hmu
  obtain ⟨q, hq⟩ : ∃ q, q = rv sg xs ys := ⟨_, rfl⟩
  rw [← hq] at hmu p1
  generalize wt ((sg, xs), ys) = V at *
  have R : FRaw w E j f := FRaw.of hr hc hf (by omega)
  have T : FRaw w G l g := FRaw.of kr kc hg (by omega)
  have S1 := Shp.of hf (by omega)
  have S2 := Shp.of hg (by omega)
  have HF := Lib.hid ((Fr.refl w).box [.bool sg, .slice A xs.length c, .slice B ys.length d] 31)
  have hP1 := Lib.hid (show ∀ (W : World) (hb : Below w.heap.size w W), Calls Try.prog 47 #[.slice E f.length j] W (ToldFR W (sF (nform (fval f))) (pc (nform (fval f)))) from fun W hb => linear_Prime E j f W (R.below hb) S1.q)
  have hP2 := Lib.hid (show ∀ (W : World) (hb : Below w.heap.size w W), Calls Try.prog 47 #[.slice G g.length l] W (ToldFR W (sF (nform (fval g))) (pc (nform (fval g)))) from fun W hb => linear_Prime G l g W (T.below hb) S2.q)
  have hN1 := Lib.hid (fun (W : World) (hb : Below w.heap.size w W) => linear_Norm f.length E j f W (Nat.le_refl _) (R.below hb))
  have hN2 := Lib.hid (fun (W : World) (hb : Below w.heap.size w W) => linear_Norm g.length G l g W (Nat.le_refl _) (T.below hb))
  have sm : mf (sF (nform (fval f))) ≤ 45814382593 := Nat.le_trans (mf_nform _) S1.shape
  have sl : (sF (nform (fval f))).length ≤ (nform (fval f)).length := by
    have := nform_len (smul (pc (nform (fval f)))⁻¹ (nform (fval f)))
    rw [smul_length] at this
    exact this
  have sl2 : (sF (nform (fval g))).length ≤ (nform (fval g)).length := by
    have := nform_len (smul (pc (nform (fval g)))⁻¹ (nform (fval g)))
    rw [smul_length] at this
    exact this
  have five1 := S1.five
  have five2 := S2.five
  have pm1 := mu_pc S1.nf
  have pm2 := mu_pc S2.nf
  have bl1 := bot_len (nform (fval f))
  have bl2 := bot_len (nform (fval g))
  have pl1 := mu_len (pc (nform (fval f)))
  have pl2 := mu_len (pc (nform (fval g)))
  have pn1 := pc_ne S1.nf
  have pi1 := mu_inv pn1
  have hK1 := Lib.hid (show ∀ (W : World) (A1 : Option Addr) (c1 : Nat) (B1 : Option Addr) (d1 : Nat) (E1 : Option Addr) (j1 : Nat), InQ W A1 c1 B1 d1 (pc (nform (fval f))) → FIn W E1 j1 (sF (nform (fval f))) → Calls Try.prog 25 #[.agg #[.bool (decide ((pc (nform (fval f))).num < 0)), .slice A1 (dg (pc (nform (fval f))).num.natAbs).length c1, .slice B1 (dg (pc (nform (fval f))).den).length d1], .slice E1 (sF (nform (fval f))).length j1] W (ToldFm W (nform (fval f))) from fun W A1 c1 B1 d1 E1 j1 k1 k2 => by
    have e := linear_Scale (decide ((pc (nform (fval f))).num < 0)) A1 c1 _ B1 d1 _ E1 j1 _ W k1.num (by omega) k1.den (by omega) (k2.raw (by omega)) (fun v => by
      rw [rv_can, fval_can, ← co_smul, ← co_nform, sF_back S1.nf]
      exact ql_of_mf (by omega) v)
    rw [rv_can, fval_can, List.length_map, sF_back S1.nf] at e
    exact e)
  have hSg := Lib.hid (fun (W : World) (hb : Below w.heap.size w W) => r3_Sign sg A c xs B d ys W (hn.below hb) (by omega) (hd.below hb) (by omega))
  rw [← hq] at hSg
  have hDv := Lib.hid (show ∀ (W : World) (A1 : Option Addr) (c1 : Nat) (B1 : Option Addr) (d1 : Nat) (A2 : Option Addr) (c2 : Nat) (B2 : Option Addr) (d2 : Nat), InQ W A1 c1 B1 d1 (pc (nform (fval g))) → InQ W A2 c2 B2 d2 (pc (nform (fval f))) → Calls Try.prog 52 #[.agg #[.bool (decide ((pc (nform (fval g))).num < 0)), .slice A1 (dg (pc (nform (fval g))).num.natAbs).length c1, .slice B1 (dg (pc (nform (fval g))).den).length d1], .agg #[.bool (decide ((pc (nform (fval f))).num < 0)), .slice A2 (dg (pc (nform (fval f))).num.natAbs).length c2, .slice B2 (dg (pc (nform (fval f))).den).length d2]] W (ToldE W (pc (nform (fval g)) * (pc (nform (fval f)))⁻¹)) from fun W A1 c1 B1 d1 A2 c2 B2 d2 k1 k2 => by
    have e := r3_Div_some (decide ((pc (nform (fval g))).num < 0)) A1 c1 _ B1 d1 _ (decide ((pc (nform (fval f))).num < 0)) A2 c2 _ B2 d2 _ W k1.num (by omega) k1.den (by omega) k2.num (by omega) k2.den (by omega) (by rw [rv_can]; exact pn1) (by rw [rv_can]; omega)
    rw [rv_can, rv_can] at e
    exact e)
  have km := mu_mul (pc (nform (fval g))) (pc (nform (fval f)))⁻¹
  have kl := mu_len (pc (nform (fval g)) * (pc (nform (fval f)))⁻¹)
  -- any number of a small measure, so many times f
  have hKf := Lib.hid (show ∀ (k : Rat), mu k ≤ 10000000 → ∀ (W : World) (hb : Below w.heap.size w W) (A1 : Option Addr) (c1 : Nat) (B1 : Option Addr) (d1 : Nat), InQ W A1 c1 B1 d1 k → Calls Try.prog 25 #[.agg #[.bool (decide (k.num < 0)), .slice A1 (dg k.num.natAbs).length c1, .slice B1 (dg k.den).length d1], .slice E f.length j] W (ToldFm W (nform (smul k (fval f)))) from fun k hk W hb A1 c1 B1 d1 k1 => by
    have kl := mu_len k
    have e := linear_Scale (decide (k.num < 0)) A1 c1 _ B1 d1 _ E j f W k1.num (by omega) k1.den (by omega) (R.below hb) (fun v => by
      rw [rv_can]
      have e1 := mu_mul k (co (fval f) v)
      have e2 := mu_co (fval f) v
      exact mu_ql (by omega))
    rw [rv_can] at e
    exact e)
  have hkk : mu (pc (nform (fval g)) * (pc (nform (fval f)))⁻¹) ≤ 10000000 := by omega
  have hsame := Lib.hid (show sF (nform (fval f)) = sF (nform (fval g)) → nform (smul (pc (nform (fval g)) * (pc (nform (fval f)))⁻¹) (fval f)) = nform (fval g) from fun e => by
    refine Eq.trans ?_ (shapes_same S1.nf S2.nf e)
    exact nform_congr fun v => by rw [co_smul, co_smul, co_nform])
  have hother := Lib.hid (show ∀ k : Rat, k ≠ 0 → sF (nform (fval f)) ≠ sF (nform (fval g)) → nform (smul k (fval f)) ≠ nform (fval g) from fun k hk e => shapes_other S2.nf hk e)
  have hnil1 := Lib.hid (show sF (nform (fval f)) = [] → nform (fval f) = [] from sF_nil S1.nf)
  have hnil2 := Lib.hid (show sF (nform (fval g)) = [] → nform (fval g) = [] from sF_nil S2.nf)
  have hnz1 := Lib.hid (show ∀ x ∈ nform (fval f), x.2 ≠ 0 from S1.nf.nz)
  have hnz2 := Lib.hid (show ∀ x ∈ nform (fval g), x.2 ≠ 0 from S2.nf.nz)
  have hmm1 := Lib.hid (fun (x : Int × Rat) (h : x ∈ nform (fval f)) => mu_mem h)
  have hmm2 := Lib.hid (fun (x : Int × Rat) (h : x ∈ nform (fval g)) => mu_mem h)
  have hnl1 : (nform (fval f)).length ≤ 1048576 := by omega
  have hnl2 : (nform (fval g)).length ≤ 1048576 := by omega
  have hsl1 : (sF (nform (fval f))).length ≤ 1048576 := by omega
  have hsl2 : (sF (nform (fval g))).length ≤ 1048576 := by omega
  have hmf1 : mf (nform (fval f)) ≤ 1048576 := by omega
  have hmf2 : mf (nform (fval g)) ≤ 1048576 := by omega
  have hsn : sF ([] : Frm) = [] := rfl
  -- the number of times
  have hcf := Lib.hid (show q ≠ 0 → (∀ (W : World) (hb : Below w.heap.size w W), Calls Try.prog 25 #[.agg #[.bool sg, .slice A xs.length c, .slice B ys.length d], .slice E f.length j] W (ToldFm W (smul q (nform (fval f))))) ∧ (∀ (W : World) (E1 : Option Addr) (j1 : Nat), FIn W E1 j1 (smul q (nform (fval f))) → Calls Try.prog 47 #[.slice E1 (smul q (nform (fval f))).length j1] W (ToldFR W (sF (nform (fval f))) (pc (smul q (nform (fval f)))))) ∧ (nform (fval f) ≠ [] → pc (smul q (nform (fval f))) = q * pc (nform (fval f))) from fun hq0 => by
    have e1 := mf_nform (smul q (fval f))
    have e2 := mf_smul q (fval f)
    rw [fval_length] at e2
    have e3 := shapes_scale (fval f) hq0
    have e4 : Shq (smul q (nform (fval f))) := ⟨smul_Nf hq0 S1.nf, by
      rw [smul_length, ← e3]
      omega⟩
    refine ⟨fun W hb => ?_, fun W E1 j1 k => ?_, fun h => pc_smul S1.nf h hq0⟩
    · have e := linear_Scale sg A c xs B d ys E j f W (hn.below hb) (by omega) (hd.below hb) (by omega) (R.below hb) (fun v => by
        rw [← hq, ← co_smul, ← co_nform]
        exact ql_of_mf (by omega) v)
      rw [← hq, e3] at e
      exact e
    · have e5 : nform (fval ((smul q (nform (fval f))).map canM)) = smul q (nform (fval f)) := by rw [fval_can, nform_self e4.nf]
      have e := linear_Prime E1 j1 _ W (k.raw e4.size) (by rw [e5]; exact e4)
      rw [e5, List.length_map] at e
      rw [← sF_smul S1.nf hq0]
      exact e)
  have hml := Lib.hid (show ∀ (W : World) (hb : Below w.heap.size w W) (A2 : Option Addr) (c2 : Nat) (B2 : Option Addr) (d2 : Nat), InQ W A2 c2 B2 d2 (pc (nform (fval f))) → Calls Try.prog 51 #[.agg #[.bool sg, .slice A xs.length c, .slice B ys.length d], .agg #[.bool (decide ((pc (nform (fval f))).num < 0)), .slice A2 (dg (pc (nform (fval f))).num.natAbs).length c2, .slice B2 (dg (pc (nform (fval f))).den).length d2]] W (ToldQ W (q * pc (nform (fval f)))) from fun W hb A2 c2 B2 d2 k2 => by
    have e := r3_Mul sg A c xs B d ys (decide ((pc (nform (fval f))).num < 0)) A2 c2 _ B2 d2 _ W (hn.below hb) (by omega) (hd.below hb) (by omega) k2.num (by omega) k2.den (by omega)
    rw [rv_can, ← hq] at e
    exact e)
  have qm := mu_mul q (pc (nform (fval f)))
  have ql2 := mu_len (q * pc (nform (fval f)))
  have hfl0 := Lib.hid (show f.length ≤ 1048576 by omega)
  have hcm := Lib.hid (show ∀ (W : World) (A1 : Option Addr) (c1 : Nat) (B1 : Option Addr) (d1 : Nat) (A2 : Option Addr) (c2 : Nat) (B2 : Option Addr) (d2 : Nat), InQ W A1 c1 B1 d1 (q * pc (nform (fval f))) → InQ W A2 c2 B2 d2 (q * pc (nform (fval f))) → Calls Try.prog 50 #[.agg #[.bool (decide ((q * pc (nform (fval f))).num < 0)), .slice A1 (dg (q * pc (nform (fval f))).num.natAbs).length c1, .slice B1 (dg (q * pc (nform (fval f))).den).length d1], .agg #[.bool (decide ((q * pc (nform (fval f))).num < 0)), .slice A2 (dg (q * pc (nform (fval f))).num.natAbs).length c2, .slice B2 (dg (q * pc (nform (fval f))).den).length d2]] W (ToldZ W 0) from fun W A1 c1 B1 d1 A2 c2 B2 d2 k1 k2 => by
    have z0 : q * pc (nform (fval f)) + -(q * pc (nform (fval f))) = 0 := by grind
    have e := r3_Cmp (decide ((q * pc (nform (fval f))).num < 0)) A1 c1 _ B1 d1 _ (decide ((q * pc (nform (fval f))).num < 0)) A2 c2 _ B2 d2 _ W k1.num (by omega) k1.den (by omega) k2.num (by omega) k2.den (by omega) (by rw [rv_can, z0]; exact Nat.le_trans (mu_len 0).1 (by rw [mu_zero]; omega)) (by rw [rv_can, z0]; exact Nat.le_trans (mu_len 0).2 (by rw [mu_zero]; omega))
    rw [rv_can, z0, show sgn (0 : Rat).num = 0 from rfl] at e
    exact e)
  have hK := Lib.hid (fun (W : World) => law_awake W)
  have hsq := sgn_zero q
  clear hn hd hgd hr hc kr kc hf hg hb hlf mn md hmu hmf hpr p1 R T S1 S2 sm sl sl2 five1 five2 pm1 pm2 bl1 bl2 pl1 pl2 pn1 pi1 km kl qm ql2 hq
  generalize pc (nform (fval g)) * (pc (nform (fval f)))⁻¹ = kq at *
  generalize q * pc (nform (fval f)) = qx at *
  generalize pc (smul q (nform (fval f))) = cy at *
  generalize smul q (nform (fval f)) = cf at *
  generalize pc (nform (fval g)) = y at *
  generalize pc (nform (fval f)) = x at *
  have hsnF : nform (fval f) = [] → sF (nform (fval f)) = [] := fun e => by rw [e]; rfl
  have hsnG : nform (fval g) = [] → sF (nform (fval g)) = [] := fun e => by rw [e]; rfl
  generalize sF (nform (fval f)) = p at *
  generalize sF (nform (fval g)) = r at *
  generalize nform (fval f) = n at *
  generalize nform (fval g) = m at *
  clear hsn
  have hsnF' := Lib.hid hsnF
  have hsnG' := Lib.hid hsnG
  have hsq' := Lib.hid hsq
  clear hsnF hsnG hsq
  go_enter Try.func12, Try.ntmps12
  go_wp2_with fail
  refine (hP1.out _ HF.out.bel).mono ?_
  rintro e V1 ⟨E1, e1, A1, c1, B1, d1, rfl, g1, g2, g3⟩
  have Q1 := Lib.hid g1.fin'
  have P1 := Lib.hid g2
  replace HF := Lib.hid (HF.out.below g3)
  clear g1 g2 g3 hP1
  have hw1 := HF.out.ltN 0 rfl
  have hal := Lib.hid ((Below.refl _ V1).alloc (Nat.le_refl _) (.cells #[.bool (decide (x.num < 0)), .slice A1 (dg x.num.natAbs).length c1, .slice B1 (dg x.den).length d1] 31))
  replace HF := Lib.hid (HF.out.box [.bool (decide (x.num < 0)), .slice A1 (dg x.num.natAbs).length c1, .slice B1 (dg x.den).length d1] 31)
  replace Q1 := Lib.hid (Q1.out.below hal.out)
  replace P1 := Lib.hid (P1.out.below hal.out)
  clear hal
  go_wp2_with fail
  obtain ⟨gx, hgx⟩ : ∃ g, g = V1.heap.size := ⟨_, rfl⟩
  rw [← hgx] at HF hw1 ⊢
  generalize V1.alloc _ = W at HF Q1 P1 ⊢
  clear hgx
  refine (hK1.out _ A1 c1 B1 d1 E1 e1 P1.out Q1.out).mono ?_
  rintro e V2 ⟨v_, rfl, h1, h2⟩
  obtain ⟨E2, e2, rfl, h3⟩ := h1.fin
  have Q2 := Lib.hid h3
  replace HF := Lib.hid (HF.out.below h2)
  replace Q1 := Lib.hid (Q1.out.below h2)
  replace P1 := Lib.hid (P1.out.below h2)
  clear h1 h2 h3 hK1
  go_wp2_with fail
  refine (hN1.out _ HF.out.bel).mono ?_
  rintro e V3 ⟨v_, rfl, h1, h2⟩
  obtain ⟨E3, e3, rfl, h3⟩ := h1.fin
  have Q3 := Lib.hid h3
  replace HF := Lib.hid (HF.out.below h2)
  replace Q1 := Lib.hid (Q1.out.below h2)
  replace P1 := Lib.hid (P1.out.below h2)
  replace Q2 := Lib.hid (Q2.out.below h2)
  clear h1 h2 h3
  have hS := Lib.hid (same_FormB E2 e2 E3 e3 n n _ Q2.out Q3.out (by omega) (by omega))
  rw [decide_eq_true (rfl : n = n)] at hS
  go_wp2_with fail
  refine hS.out.mono ?_
  rintro e V4 ⟨rfl, h2⟩
  replace HF := Lib.hid (HF.out.below h2)
  replace Q1 := Lib.hid (Q1.out.below h2)
  replace P1 := Lib.hid (P1.out.below h2)
  clear h2 hS Q2 Q3
  have b0 := HF.out.cellN 1 rfl 0 rfl
  have b1 := HF.out.cellN 1 rfl 1 rfl
  have b2 := HF.out.cellN 1 rfl 2 rfl
  go_wp2_with fail
  refine (hSg.out _ HF.out.bel).mono ?_
  rintro e V5 ⟨rfl, h2⟩
  replace HF := Lib.hid (HF.out.below h2)
  replace Q1 := Lib.hid (Q1.out.below h2)
  replace P1 := Lib.hid (P1.out.below h2)
  clear h2 hSg b0 b1 b2
  by_cases hq0 : q = 0
  · have hz : sgn q.num = 0 := by rw [hq0]; rfl
    rw [hz]
    clear hz hq0 hcf hml hcm hsq' 
    go_wp2_with fail
    refine (hP2.out _ HF.out.bel).mono ?_
    rintro e V8 ⟨E8, e8, A8, c8, B8, d8, rfl, g1, g2, g3⟩
    have Q8 := Lib.hid g1.fin'
    have P8 := Lib.hid g2
    replace HF := Lib.hid (HF.out.below g3)
    replace Q1 := Lib.hid (Q1.out.below g3)
    replace P1 := Lib.hid (P1.out.below g3)
    clear g1 g2 g3 hP2
    have hw8 := HF.out.ltN 0 rfl
    have hal := Lib.hid ((Below.refl _ V8).alloc (Nat.le_refl _) (.cells #[.bool (decide (y.num < 0)), .slice A8 (dg y.num.natAbs).length c8, .slice B8 (dg y.den).length d8] 31))
    replace HF := Lib.hid (HF.out.box [.bool (decide (y.num < 0)), .slice A8 (dg y.num.natAbs).length c8, .slice B8 (dg y.den).length d8] 31)
    replace Q1 := Lib.hid (Q1.out.below hal.out)
    replace P1 := Lib.hid (P1.out.below hal.out)
    replace Q8 := Lib.hid (Q8.out.below hal.out)
    replace P8 := Lib.hid (P8.out.below hal.out)
    clear hal
    have hS := Lib.hid (fun (W : World) (k1 : FIn W E1 e1 p) (k2 : FIn W E8 e8 r) => same_FormB E1 e1 E8 e8 p r W k1 k2 (by omega) (by omega))
    go_wp2_with fail
    generalize V8.alloc _ = W at HF Q1 P1 Q8 P8 ⊢
    refine (hS.out _ Q1.out Q8.out).mono ?_
    rintro e V9 ⟨rfl, h2⟩
    replace HF := Lib.hid (HF.out.below h2)
    replace P1 := Lib.hid (P1.out.below h2)
    replace P8 := Lib.hid (P8.out.below h2)
    clear h2 hS Q1 Q8
    by_cases hpr : p = r
    · rw [decide_eq_true hpr]
      replace hsame := Lib.hid (hsame.out hpr)
      clear hpr hother hN1
      by_cases hp0 : p = []
      · subst hp0
        simp only [List.length_nil]
        go_wp2_with fail
        refine (hK.out _).mono ?_
        rintro e V10 ⟨rfl, h2⟩
        replace HF := Lib.hid (HF.out.below h2)
        clear h2
        go_wp2
        go_ret
        exact ⟨rfl, HF.out.bel⟩
      · have hp1 : ¬ ((p.length : Nat) : Int) = 0 := fun e => hp0 (List.length_eq_zero_iff.1 (by omega))
        have hp2 : ¬ p.length = 0 := by omega
        have b0 := HF.out.cellN 0 rfl 0 rfl
        have b1 := HF.out.cellN 0 rfl 1 rfl
        have b2 := HF.out.cellN 0 rfl 2 rfl
        have a0 := HF.out.cellN 1 rfl 0 rfl
        have a1 := HF.out.cellN 1 rfl 1 rfl
        have a2 := HF.out.cellN 1 rfl 2 rfl
        clear hp0
        go_wp2_with fail
        refine (hDv.out _ A8 c8 B8 d8 A1 c1 B1 d1 P8.out P1.out).mono ?_
        rintro e V10 ⟨A9, c9, B9, d9, rfl, g1, g3⟩
        replace HF := Lib.hid (HF.out.below g3)
        have P9 := Lib.hid g1
        clear g1 g3 hDv P8 P1 a0 a1 a2 b0 b1 b2
        have hal := Lib.hid ((Below.refl _ V10).alloc (Nat.le_refl _) (.cells #[.bool (decide (kq.num < 0)), .slice A9 (dg kq.num.natAbs).length c9, .slice B9 (dg kq.den).length d9] 31))
        replace HF := Lib.hid (HF.out.box [.bool (decide (kq.num < 0)), .slice A9 (dg kq.num.natAbs).length c9, .slice B9 (dg kq.den).length d9] 31)
        replace P9 := Lib.hid (P9.out.below hal.out)
        clear hal
        have hKk := Lib.hid (hKf.out kq hkk)
        rw [hsame.out] at hKk
        go_wp2_with fail
        generalize V10.alloc _ = W at HF P9 ⊢
        refine (hKk.out _ HF.out.bel A9 c9 B9 d9 P9.out).mono ?_
        rintro e V11 ⟨v_, rfl, h1, h2⟩
        obtain ⟨E9, e9, rfl, h3⟩ := h1.fin
        have Q9 := Lib.hid h3
        replace HF := Lib.hid (HF.out.below h2)
        clear h1 h2 h3 hKk P9
        go_wp2_with fail
        refine (hN2.out _ HF.out.bel).mono ?_
        rintro e V12 ⟨v_, rfl, h1, h2⟩
        obtain ⟨E10, e10, rfl, h3⟩ := h1.fin
        have Q10 := Lib.hid h3
        replace HF := Lib.hid (HF.out.below h2)
        replace Q9 := Lib.hid (Q9.out.below h2)
        clear h1 h2 h3 hN2
        have hS := Lib.hid (same_FormB E9 e9 E10 e10 m m _ Q9.out Q10.out (by omega) (by omega))
        rw [decide_eq_true (rfl : m = m)] at hS
        go_wp2_with fail
        refine hS.out.mono ?_
        rintro e V13 ⟨rfl, h2⟩
        replace HF := Lib.hid (HF.out.below h2)
        clear h2 hS Q9 Q10
        go_wp2
        go_ret
        exact ⟨rfl, HF.out.bel⟩
    · rw [decide_eq_false hpr]
      replace hother := Lib.hid (fun k hk => hother.out k hk hpr)
      have hnm := Lib.hid (show ¬ (n = [] ∧ m = []) from fun h => hpr ((hsnF'.out h.1).trans (hsnG'.out h.2).symm))
      clear hpr hsame hDv
      go_wp2_with fail
      refine (hN1.out _ HF.out.bel).mono ?_
      rintro e V10 ⟨v_, rfl, h1, h2⟩
      obtain ⟨E9, e9, rfl, h3⟩ := h1.fin
      have Q9 := Lib.hid h3
      replace HF := Lib.hid (HF.out.below h2)
      clear h1 h2 h3 hN1
      go_wp2_with fail
      refine (hN2.out _ HF.out.bel).mono ?_
      rintro e V11 ⟨v_, rfl, h1, h2⟩
      obtain ⟨E10, e10, rfl, h3⟩ := h1.fin
      have Q10 := Lib.hid h3
      replace HF := Lib.hid (HF.out.below h2)
      replace Q9 := Lib.hid (Q9.out.below h2)
      clear h1 h2 h3 hN2
      by_cases hn0 : n = []
      · have hm0 : m ≠ [] := fun e => hnm.out ⟨hn0, e⟩
        subst hn0
        have hm1 : 0 < m.length := List.length_pos_iff.2 hm0
        have hm2 : (0 : Int) < (m.length : Int) := by omega
        clear hm0 hnm
        simp only [List.length_nil]
        go_wp2
        go_ret
        exact ⟨rfl, HF.out.bel⟩
      · have hn1 : 0 < n.length := List.length_pos_iff.2 hn0
        have hn2 : (0 : Int) < (n.length : Int) := by omega
        have hn3 : ¬ ((n.length : Nat) : Int) = 0 := by omega
        have hn4 : ¬ n.length = 0 := by omega
        have hn5 : (((n.length : Nat) : Int) == 0) = false := beq_eq_false_iff_ne.2 hn3
        clear hn0
        by_cases hm0 : m = []
        · subst hm0
          clear hnm
          simp only [List.length_nil]
          go_wp2
          go_ret
          exact ⟨rfl, HF.out.bel⟩
        · have hm1 : 0 < m.length := List.length_pos_iff.2 hm0
          have hm2 : (0 : Int) < (m.length : Int) := by omega
          have hm3 : ¬ ((m.length : Nat) : Int) = 0 := by omega
          have hm4 : ¬ m.length = 0 := by omega
          have hm5 : (((m.length : Nat) : Int) == 0) = false := beq_eq_false_iff_ne.2 hm3
          clear hm0 hnm
          obtain ⟨ad, rn, rfl, nvq, nat_, i1, i2, i3, i4⟩ := Q9.out.at_ 0 hn1
          rw [show ad.add (0 * 4) = ad from by rw [Nat.zero_mul]; rfl] at i1 i2 i3 i4
          obtain ⟨bd, rm, rfl, mvq, mat, j1, j2, j3, j4⟩ := Q10.out.at_ 0 hm1
          rw [show bd.add (0 * 4) = bd from by rw [Nat.zero_mul]; rfl] at j1 j2 j3 j4
          have nq : rn.q ≠ 0 := by
            have e : rn.q = n[0].2 := by rw [← nvq]; rfl
            rw [e]; exact hnz1.out _ (List.getElem_mem _)
          have mq : rm.q ≠ 0 := by
            have e : rm.q = m[0].2 := by rw [← mvq]; rfl
            rw [e]; exact hnz2.out _ (List.getElem_mem _)
          have nm : mu rn.q + 1 ≤ mf n := by
            have e : rn.q = n[0].2 := by rw [← nvq]; rfl
            rw [e]; exact hmm1.out _ (List.getElem_mem _)
          have mm : mu rm.q + 1 ≤ mf m := by
            have e : rm.q = m[0].2 := by rw [← mvq]; rfl
            rw [e]; exact hmm2.out _ (List.getElem_mem _)
          have nl := mu_len rn.q
          have ml := mu_len rm.q
          have ni := mu_inv nq
          have hD := Lib.hid (show ∀ (W : World), InQ W rm.A rm.c rm.B rm.d rm.q → InQ W rn.A rn.c rn.B rn.d rn.q → Calls Try.prog 52 #[.agg #[.bool (decide (rm.q.num < 0)), .slice rm.A (dg rm.q.num.natAbs).length rm.c, .slice rm.B (dg rm.q.den).length rm.d], .agg #[.bool (decide (rn.q.num < 0)), .slice rn.A (dg rn.q.num.natAbs).length rn.c, .slice rn.B (dg rn.q.den).length rn.d]] W (ToldE W (rm.q * rn.q⁻¹)) from fun W k1 k2 => by
            have e := r3_Div_some (decide (rm.q.num < 0)) rm.A rm.c _ rm.B rm.d _ (decide (rn.q.num < 0)) rn.A rn.c _ rn.B rn.d _ W k1.num (by omega) k1.den (by omega) k2.num (by omega) k2.den (by omega) (by rw [rv_can]; exact nq) (by rw [rv_can]; omega)
            rw [rv_can, rv_can] at e
            exact e)
          have k0 : rm.q * rn.q⁻¹ ≠ 0 := fun e => (Rat.mul_eq_zero.1 e).elim mq fun e2 => nq (by have := Rat.mul_inv_cancel rn.q nq; rw [e2, Rat.mul_zero] at this; exact absurd this (by decide))
          have km := mu_mul rm.q rn.q⁻¹
          have hKk := Lib.hid (hKf.out (rm.q * rn.q⁻¹) (by omega))
          have hdf := Lib.hid (hother.out _ k0)
          have hlu := nform_len (smul (rm.q * rn.q⁻¹) (fval f))
          rw [smul_length, fval_length] at hlu
          have hfl : f.length ≤ 1048576 := hfl0.out
          generalize nform (smul (rm.q * rn.q⁻¹) (fval f)) = u at *
          have hS := Lib.hid (fun (W : World) (E12 : Option Addr) (e12 : Nat) (k1 : FIn W E12 e12 u) (k2 : FIn W (some bd) e10 m) => same_FormB E12 e12 (some bd) e10 u m W k1 k2 (by omega) (by omega))
          rw [decide_eq_false hdf.out] at hS
          generalize rm.q * rn.q⁻¹ = kk at *
          have NQ := Lib.hid nat_.inq
          have MQ := Lib.hid mat.inq
          have hw11 := HF.out.ltN 0 rfl
          have HG : Hid (Fr V11 V11 []) := Fr.refl V11
          clear nvq nat_ mvq mat nq mq nm mm nl ml ni k0 km hdf hlu
          go_wp2_with fail
          have HF' := HF
          clear HF
          have HF := HG
          have HF_ := Lib.hid HF.out.drew
          clear HF
          have HF := HF_
          clear HF_
          refine start_ (n := 15) (S := fun w' => w'.cell? (nxt ad 1) = some (.bool (decide (rn.q.num < 0))) ∧ w'.cell? (nxt ad 2) = some (.slice rn.A (dg rn.q.num.natAbs).length rn.c) ∧ w'.cell? (nxt ad 3) = some (.slice rn.B (dg rn.q.den).length rn.d) ∧ w'.cell? (nxt bd 1) = some (.bool (decide (rm.q.num < 0))) ∧ w'.cell? (nxt bd 2) = some (.slice rm.A (dg rm.q.num.natAbs).length rm.c) ∧ w'.cell? (nxt bd 3) = some (.slice rm.B (dg rm.q.den).length rm.d)) (ds := []) #[false, false, false, false, false, false, false, false, false, false, false, false, false, false, false] (by kernel_rfl) rfl rfl ⟨cell_below HF.out.bel i2, cell_below HF.out.bel i3, cell_below HF.out.bel i4, cell_below HF.out.bel j2, cell_below HF.out.bel j3, cell_below HF.out.bel j4⟩ (fun hHeld => ?_)
          generalize World.drew _ = W at *
          refine pure_ (i := 0) (N := (some 86)) (v := ?_) (a' := ?_) #[true, false, false, false, false, false, false, false, false, false, false, false, false, false, false] rfl rfl (by kernel_rfl) (fun _ _ _ h => h) (Or.inl ⟨by rfl, ?_⟩) ?_ ?_
          rotate_left
          · intro w'
            go_simp
            with_reducible rfl
          rotate_left
          · simp only [Act.put, List.setIfInBounds_toArray, List.set_cons_zero, List.set_cons_succ]
            rfl
          refine pure_ (i := 1) (N := (some 87)) (v := ?_) (a' := ?_) #[true, true, false, false, false, false, false, false, false, false, false, false, false, false, false] rfl rfl (by kernel_rfl) (fun _ _ _ h => h) (Or.inl ⟨by rfl, ?_⟩) ?_ ?_
          rotate_left
          · intro w'
            go_simp
            with_reducible rfl
          rotate_left
          · simp only [Act.put, List.setIfInBounds_toArray, List.set_cons_zero, List.set_cons_succ]
            rfl
          refine pure_ (i := 2) (N := (some 88)) (v := ?_) (a' := ?_) #[true, true, true, false, false, false, false, false, false, false, false, false, false, false, false] rfl rfl (by kernel_rfl) (fun _ _ _ h => h) (Or.inl ⟨by rfl, ?_⟩) ?_ ?_
          rotate_left
          · intro w'
            go_simp
            with_reducible rfl
          rotate_left
          · simp only [Act.put, List.setIfInBounds_toArray, List.set_cons_zero, List.set_cons_succ]
            rfl
          refine pure_ (i := 4) (N := (some 90)) (v := ?_) (a' := ?_) #[true, true, true, false, true, false, false, false, false, false, false, false, false, false, false] rfl rfl (by kernel_rfl) (fun _ _ _ h => h) (Or.inl ⟨by rfl, ?_⟩) ?_ ?_
          rotate_left
          · intro w'
            go_simp
            with_reducible rfl
          rotate_left
          · simp only [Act.put, List.setIfInBounds_toArray, List.set_cons_zero, List.set_cons_succ]
            rfl
          refine pure_ (i := 5) (N := (some 91)) (v := ?_) (a' := ?_) #[true, true, true, false, true, true, false, false, false, false, false, false, false, false, false] rfl rfl (by kernel_rfl) (fun _ _ _ h => h) (Or.inl ⟨by rfl, ?_⟩) ?_ ?_
          rotate_left
          · intro w'
            go_simp
            with_reducible rfl
          rotate_left
          · simp only [Act.put, List.setIfInBounds_toArray, List.set_cons_zero, List.set_cons_succ]
            rfl
          refine pure_ (i := 6) (N := (some 92)) (v := ?_) (a' := ?_) #[true, true, true, false, true, true, true, false, false, false, false, false, false, false, false] rfl rfl (by kernel_rfl) (fun _ _ _ h => h) (Or.inl ⟨by rfl, ?_⟩) ?_ ?_
          rotate_left
          · intro w'
            go_simp
            with_reducible rfl
          rotate_left
          · simp only [Act.put, List.setIfInBounds_toArray, List.set_cons_zero, List.set_cons_succ]
            rfl
          refine take_ (i := 3) (N := (some 89)) (v := ?_) (a' := ?_) #[true, true, true, true, true, true, true, false, false, false, false, false, false, false, false] rfl rfl (by kernel_rfl) (fun _ _ _ h => h) (Or.inl ⟨by rfl, ?_⟩) hHeld ?_ ?_
          rotate_left
          · rintro w' ⟨s0, s1, s2, s3, s4, s5⟩
            go_simp
            with_reducible rfl
          rotate_left
          · simp only [Act.put, List.setIfInBounds_toArray, List.set_cons_zero, List.set_cons_succ]
            rfl
          refine take_ (i := 7) (N := (some 93)) (v := ?_) (a' := ?_) #[true, true, true, true, true, true, true, true, false, false, false, false, false, false, false] rfl rfl (by kernel_rfl) (fun _ _ _ h => h) (Or.inl ⟨by rfl, ?_⟩) hHeld ?_ ?_
          rotate_left
          · rintro w' ⟨s0, s1, s2, s3, s4, s5⟩
            go_simp
            with_reducible rfl
          rotate_left
          · simp only [Act.put, List.setIfInBounds_toArray, List.set_cons_zero, List.set_cons_succ]
            rfl
          refine join_ (σ := Nat × Option Addr × Nat × Option Addr × Nat) 0 #[true, true, true, true, true, true, true, true, true, true, true, true, true, true, true] (fun ⟨g0, A11, c11, B11, d11⟩ => [(94, .tuple #[.agg #[.bool (decide (kk.num < 0)), .slice A11 (dg kk.num.natAbs).length c11, .slice B11 (dg kk.den).length d11], .int .i64 0]), (85, .tuple #[.agg #[.bool (decide (kk.num < 0)), .slice A11 (dg kk.num.natAbs).length c11, .slice B11 (dg kk.den).length d11], .int .i64 0]), (95, .agg #[.bool (decide (kk.num < 0)), .slice A11 (dg kk.num.natAbs).length c11, .slice B11 (dg kk.den).length d11]), (96, .int .i64 0), (15, .pointer (some ⟨g0, 0, none⟩)), (16, .int .i64 0)]) (fun ⟨g0, A11, c11, B11, d11⟩ W' => Fr V11 W' [(g0, [.bool (decide (kk.num < 0)), .slice A11 (dg kk.num.natAbs).length c11, .slice B11 (dg kk.den).length d11])] ∧ InQ W' A11 c11 B11 d11 kk) ?hc0 ?hm0
          case hm0 =>
            intro hcont
            refine two_ (i := 8) (j := 12) (Ni := (some 94)) (Nj := (some 15)) #[true, true, true, true, true, true, true, true, true, false, false, false, false, false, false] #[true, true, true, true, true, true, true, true, false, false, false, false, true, false, false] rfl rfl rfl rfl (by kernel_rfl) (by decide) (by decide) (fun K hK => ?_) (fun K hK => ?_)
            · refine goes_ Try.func52 (by kernel_rfl) rfl #[.agg #[.bool (decide (rm.q.num < 0)), .slice rm.A (dg rm.q.num.natAbs).length rm.c, .slice rm.B (dg rm.q.den).length rm.d], .agg #[.bool (decide (rn.q.num < 0)), .slice rn.A (dg rn.q.num.natAbs).length rn.c, .slice rn.B (dg rn.q.den).length rn.d]] (by rfl) rfl rfl (by (try simp only [List.map_toArray, List.map_cons, List.map_nil]); first | done | rfl) ?_
              refine (hD.out W (MQ.out.below HF.out.bel) (NQ.out.below HF.out.bel)).mono ?_
              rintro e W1 ⟨A11, c11, B11, d11, rfl, q1, q3⟩
              refine ⟨_, rfl, ?_⟩
              replace HF := Lib.hid (HF.out.below q3)
              have Q11 := Lib.hid q1
              clear q1 q3 MQ NQ
              refine hK.out _ _ ⟨cell_below HF.out.bel i2, cell_below HF.out.bel i3, cell_below HF.out.bel i4, cell_below HF.out.bel j2, cell_below HF.out.bel j3, cell_below HF.out.bel j4⟩ (fun hHeld => ?_)
              clear hK K
              refine norm_ (a' := ?_) ?_ ?_
              rotate_left
              · show Act.put _ (some 94) _ = _
                simp only [Act.put, List.setIfInBounds_toArray, List.set_cons_zero, List.set_cons_succ]
                rfl
              refine pure_ (i := 9) (N := (some 85)) (v := ?_) (a' := ?_) #[true, true, true, true, true, true, true, true, true, true, false, false, false, false, false] rfl rfl (by kernel_rfl) (fun _ _ _ h => h) (Or.inl ⟨by rfl, ?_⟩) ?_ ?_
              rotate_left
              · intro w'
                go_simp
                with_reducible rfl
              rotate_left
              · simp only [Act.put, List.setIfInBounds_toArray, List.set_cons_zero, List.set_cons_succ]
                rfl
              refine pure_ (i := 10) (N := (some 95)) (v := ?_) (a' := ?_) #[true, true, true, true, true, true, true, true, true, true, true, false, false, false, false] rfl rfl (by kernel_rfl) (fun _ _ _ h => h) (Or.inl ⟨by rfl, ?_⟩) ?_ ?_
              rotate_left
              · intro w'
                go_simp
                with_reducible rfl
              rotate_left
              · simp only [Act.put, List.setIfInBounds_toArray, List.set_cons_zero, List.set_cons_succ]
                rfl
              refine pure_ (i := 11) (N := (some 96)) (v := ?_) (a' := ?_) #[true, true, true, true, true, true, true, true, true, true, true, true, false, false, false] rfl rfl (by kernel_rfl) (fun _ _ _ h => h) (Or.inl ⟨by rfl, ?_⟩) ?_ ?_
              rotate_left
              · intro w'
                go_simp
                with_reducible rfl
              rotate_left
              · simp only [Act.put, List.setIfInBounds_toArray, List.set_cons_zero, List.set_cons_succ]
                rfl
              refine one_ (i := 12) (N := (some 15)) #[true, true, true, true, true, true, true, true, true, true, true, true, true, false, false] rfl rfl (by kernel_rfl) (by decide) (fun K hK => ?_)
              refine value_ (v := ?_) (w1 := ?_) (by rfl) rfl ?_ ?_
              rotate_left
              rotate_left
              · go_simp
                first | rfl | (refine ⟨?_, ?_⟩ <;> rfl)
              have hgw : V11.heap.size ≤ W1.heap.size := HF.out.size
              have hbe := Lib.hid ((Below.refl _ W1).alloc (Nat.le_refl _) (.cells #[.bool false, .slice none 0 0, .slice none 0 0] 31))
              try replace Q11 := Lib.hid (Q11.out.below hbe.out)
              replace HF := Lib.hid (HF.out.boxEnd [.bool false, .slice none 0 0, .slice none 0 0] 31)
              refine hK.out _ _ ⟨cell_below HF.out.bel i2, cell_below HF.out.bel i3, cell_below HF.out.bel i4, cell_below HF.out.bel j2, cell_below HF.out.bel j3, cell_below HF.out.bel j4⟩ (fun hHeld => ?_)
              clear hK K
              refine norm_ (a' := ?_) ?_ ?_
              rotate_left
              · show Act.put _ (some 15) _ = _
                simp only [Act.put, List.setIfInBounds_toArray, List.set_cons_zero, List.set_cons_succ]
                rfl
              obtain ⟨g0, hg0⟩ : ∃ g0, g0 = W1.heap.size := ⟨_, rfl⟩
              obtain ⟨W2, hV⟩ : ∃ X, X = W1.alloc (.cells #[.bool false, .slice none 0 0, .slice none 0 0] 31) := ⟨_, rfl⟩
              rw [← hg0] at HF hgw ⊢
              rw [← hV] at HF ⊢
              try rw [← hV] at Q11
              clear hg0 hV hbe
              refine one_ (i := 13) (N := none) #[true, true, true, true, true, true, true, true, true, true, true, true, true, true, false] rfl rfl (by kernel_rfl) (by decide) (fun K hK => ?_)
              have hf0 := HF.out.frozenN 0 rfl 0
              have hf1 := HF.out.frozenN 0 rfl 1
              have hf2 := HF.out.frozenN 0 rfl 2
              have hd0 := HF.out.cellN 0 rfl 0 rfl
              have hd1 := HF.out.cellN 0 rfl 1 rfl
              have hd2 := HF.out.cellN 0 rfl 2 rfl
              refine skip_ (w1 := ?_) (by rfl) rfl ?_ ?_
              rotate_left
              · go_simp
                rfl
              replace Q11 := Lib.hid (Q11.out.put3 (HF.out.ownN 0 rfl) (by simp) (a := .bool (decide (kk.num < 0))) (by simp) (b := .slice A11 (dg kk.num.natAbs).length c11) (by simp) (.slice B11 (dg kk.den).length d11))
              replace HF := Lib.hid (HF.out.put3 0 rfl hgw (by simp) (.bool (decide (kk.num < 0))) (.slice A11 (dg kk.num.natAbs).length c11) (.slice B11 (dg kk.den).length d11))
              refine hK.out _ _ ⟨cell_below HF.out.bel i2, cell_below HF.out.bel i3, cell_below HF.out.bel i4, cell_below HF.out.bel j2, cell_below HF.out.bel j3, cell_below HF.out.bel j4⟩ (fun hHeld => ?_)
              clear hK K
              refine pure_ (i := 14) (N := (some 16)) (v := ?_) (a' := ?_) #[true, true, true, true, true, true, true, true, true, true, true, true, true, true, true] rfl rfl (by kernel_rfl) (fun _ _ _ h => h) (Or.inl ⟨by rfl, ?_⟩) ?_ ?_
              rotate_left
              · intro w'
                go_simp
                with_reducible rfl
              rotate_left
              · simp only [Act.put, List.setIfInBounds_toArray, List.set_cons_zero, List.set_cons_succ]
                rfl
              exact hcont (g0, A11, c11, B11, d11) _ ⟨HF.out, Q11.out⟩
            · refine value_ (v := ?_) (w1 := ?_) (by rfl) rfl ?_ ?_
              rotate_left
              rotate_left
              · go_simp
                first | rfl | (refine ⟨?_, ?_⟩ <;> rfl)
              have hgw : V11.heap.size ≤ W.heap.size := HF.out.size
              have hbe := Lib.hid ((Below.refl _ W).alloc (Nat.le_refl _) (.cells #[.bool false, .slice none 0 0, .slice none 0 0] 31))
              try replace Q11 := Lib.hid (Q11.out.below hbe.out)
              replace HF := Lib.hid (HF.out.boxEnd [.bool false, .slice none 0 0, .slice none 0 0] 31)
              refine hK.out _ _ ⟨cell_below HF.out.bel i2, cell_below HF.out.bel i3, cell_below HF.out.bel i4, cell_below HF.out.bel j2, cell_below HF.out.bel j3, cell_below HF.out.bel j4⟩ (fun hHeld => ?_)
              clear hK K
              refine norm_ (a' := ?_) ?_ ?_
              rotate_left
              · show Act.put _ (some 15) _ = _
                simp only [Act.put, List.setIfInBounds_toArray, List.set_cons_zero, List.set_cons_succ]
                rfl
              obtain ⟨g0, hg0⟩ : ∃ g0, g0 = W.heap.size := ⟨_, rfl⟩
              obtain ⟨W3, hV⟩ : ∃ X, X = W.alloc (.cells #[.bool false, .slice none 0 0, .slice none 0 0] 31) := ⟨_, rfl⟩
              rw [← hg0] at HF hgw ⊢
              rw [← hV] at HF ⊢
              try rw [← hV] at Q11
              clear hg0 hV hbe
              refine one_ (i := 8) (N := (some 94)) #[true, true, true, true, true, true, true, true, true, false, false, false, true, false, false] rfl rfl (by kernel_rfl) (by decide) (fun K hK => ?_)
              refine goes_ Try.func52 (by kernel_rfl) rfl #[.agg #[.bool (decide (rm.q.num < 0)), .slice rm.A (dg rm.q.num.natAbs).length rm.c, .slice rm.B (dg rm.q.den).length rm.d], .agg #[.bool (decide (rn.q.num < 0)), .slice rn.A (dg rn.q.num.natAbs).length rn.c, .slice rn.B (dg rn.q.den).length rn.d]] (by rfl) rfl rfl (by (try simp only [List.map_toArray, List.map_cons, List.map_nil]); first | done | rfl) ?_
              refine (hD.out W3 (MQ.out.below HF.out.bel) (NQ.out.below HF.out.bel)).mono ?_
              rintro e W4 ⟨A11, c11, B11, d11, rfl, q1, q3⟩
              refine ⟨_, rfl, ?_⟩
              replace HF := Lib.hid (HF.out.below q3)
              have Q11 := Lib.hid q1
              clear q1 q3 MQ NQ
              refine hK.out _ _ ⟨cell_below HF.out.bel i2, cell_below HF.out.bel i3, cell_below HF.out.bel i4, cell_below HF.out.bel j2, cell_below HF.out.bel j3, cell_below HF.out.bel j4⟩ (fun hHeld => ?_)
              clear hK K
              refine norm_ (a' := ?_) ?_ ?_
              rotate_left
              · show Act.put _ (some 94) _ = _
                simp only [Act.put, List.setIfInBounds_toArray, List.set_cons_zero, List.set_cons_succ]
                rfl
              refine pure_ (i := 9) (N := (some 85)) (v := ?_) (a' := ?_) #[true, true, true, true, true, true, true, true, true, true, false, false, true, false, false] rfl rfl (by kernel_rfl) (fun _ _ _ h => h) (Or.inl ⟨by rfl, ?_⟩) ?_ ?_
              rotate_left
              · intro w'
                go_simp
                with_reducible rfl
              rotate_left
              · simp only [Act.put, List.setIfInBounds_toArray, List.set_cons_zero, List.set_cons_succ]
                rfl
              refine pure_ (i := 10) (N := (some 95)) (v := ?_) (a' := ?_) #[true, true, true, true, true, true, true, true, true, true, true, false, true, false, false] rfl rfl (by kernel_rfl) (fun _ _ _ h => h) (Or.inl ⟨by rfl, ?_⟩) ?_ ?_
              rotate_left
              · intro w'
                go_simp
                with_reducible rfl
              rotate_left
              · simp only [Act.put, List.setIfInBounds_toArray, List.set_cons_zero, List.set_cons_succ]
                rfl
              refine pure_ (i := 11) (N := (some 96)) (v := ?_) (a' := ?_) #[true, true, true, true, true, true, true, true, true, true, true, true, true, false, false] rfl rfl (by kernel_rfl) (fun _ _ _ h => h) (Or.inl ⟨by rfl, ?_⟩) ?_ ?_
              rotate_left
              · intro w'
                go_simp
                with_reducible rfl
              rotate_left
              · simp only [Act.put, List.setIfInBounds_toArray, List.set_cons_zero, List.set_cons_succ]
                rfl
              refine one_ (i := 13) (N := none) #[true, true, true, true, true, true, true, true, true, true, true, true, true, true, false] rfl rfl (by kernel_rfl) (by decide) (fun K hK => ?_)
              have hf0 := HF.out.frozenN 0 rfl 0
              have hf1 := HF.out.frozenN 0 rfl 1
              have hf2 := HF.out.frozenN 0 rfl 2
              have hd0 := HF.out.cellN 0 rfl 0 rfl
              have hd1 := HF.out.cellN 0 rfl 1 rfl
              have hd2 := HF.out.cellN 0 rfl 2 rfl
              refine skip_ (w1 := ?_) (by rfl) rfl ?_ ?_
              rotate_left
              · go_simp
                rfl
              replace Q11 := Lib.hid (Q11.out.put3 (HF.out.ownN 0 rfl) (by simp) (a := .bool (decide (kk.num < 0))) (by simp) (b := .slice A11 (dg kk.num.natAbs).length c11) (by simp) (.slice B11 (dg kk.den).length d11))
              replace HF := Lib.hid (HF.out.put3 0 rfl hgw (by simp) (.bool (decide (kk.num < 0))) (.slice A11 (dg kk.num.natAbs).length c11) (.slice B11 (dg kk.den).length d11))
              refine hK.out _ _ ⟨cell_below HF.out.bel i2, cell_below HF.out.bel i3, cell_below HF.out.bel i4, cell_below HF.out.bel j2, cell_below HF.out.bel j3, cell_below HF.out.bel j4⟩ (fun hHeld => ?_)
              clear hK K
              refine pure_ (i := 14) (N := (some 16)) (v := ?_) (a' := ?_) #[true, true, true, true, true, true, true, true, true, true, true, true, true, true, true] rfl rfl (by kernel_rfl) (fun _ _ _ h => h) (Or.inl ⟨by rfl, ?_⟩) ?_ ?_
              rotate_left
              · intro w'
                go_simp
                with_reducible rfl
              rotate_left
              · simp only [Act.put, List.setIfInBounds_toArray, List.set_cons_zero, List.set_cons_succ]
                rfl
              exact hcont (g0, A11, c11, B11, d11) _ ⟨HF.out, Q11.out⟩
          rintro ⟨g0, A11, c11, B11, d11⟩ W ⟨hF_, q1⟩
          clear hHeld
          refine norm_ (a' := ?_) ?_ ?_
          rotate_left
          · show putAll _ _ = _
            simp only [putAll, Act.put, List.setIfInBounds_toArray, List.set_cons_zero, List.set_cons_succ]
            rfl
          refine done_ (by kernel_rfl) ?_
          have HF := Lib.hid hF_
          have Q11 := Lib.hid q1
          replace Q10 := Lib.hid (Q10.out.below HF.out.bel)
          clear hF_ q1
          have HFF := Lib.hid (HF'.out.below HF.out.bel)
          have b0 := HF.out.cellN 0 rfl 0 rfl
          have b1 := HF.out.cellN 0 rfl 1 rfl
          have b2 := HF.out.cellN 0 rfl 2 rfl
          go_wp2_with fail
          refine (hKk.out _ HFF.out.bel A11 c11 B11 d11 Q11.out).mono ?_
          rintro e V12 ⟨v_, rfl, h1, h2⟩
          obtain ⟨E12, e12, rfl, h3⟩ := h1.fin
          have Q12 := Lib.hid h3
          replace HFF := Lib.hid (HFF.out.below h2)
          replace Q10 := Lib.hid (Q10.out.below h2)
          clear h1 h2 h3 hKk Q11 b0 b1 b2
          go_wp2_with fail
          refine (hS.out _ E12 e12 Q12.out Q10.out).mono ?_
          rintro e V13 ⟨rfl, h2⟩
          replace HFF := Lib.hid (HFF.out.below h2)
          clear h2 hS Q12 Q10
          go_wp2
          go_ret
          exact ⟨rfl, HFF.out.bel⟩
  · have hqb : (sgn q.num == 0) = false := by rw [hsq'.out]; simpa using hq0
    have hqz : ¬ sgn q.num = 0 := by simpa using hqb
    obtain ⟨hcs, hcp, hcy⟩ := hcf.out hq0
    have HCS := Lib.hid hcs
    have HCP := Lib.hid hcp
    have HCY := Lib.hid hcy
    clear hcs hcp hcy hcf hq0 hsq'
    generalize sgn q.num = sq at *
    have b0 := HF.out.cellN 1 rfl 0 rfl
    have b1 := HF.out.cellN 1 rfl 1 rfl
    have b2 := HF.out.cellN 1 rfl 2 rfl
    go_wp2_with fail
    refine (HCS.out _ HF.out.bel).mono ?_
    rintro e V6 ⟨v_, rfl, h1, h2⟩
    obtain ⟨E6, e6, rfl, h3⟩ := h1.fin
    have Q6 := Lib.hid h3
    replace HF := Lib.hid (HF.out.below h2)
    replace Q1 := Lib.hid (Q1.out.below h2)
    replace P1 := Lib.hid (P1.out.below h2)
    clear h1 h2 h3 HCS b0 b1 b2
    go_wp2_with fail
    refine (HCP.out _ E6 e6 Q6.out).mono ?_
    rintro e V7 ⟨E7, e7, A7, c7, B7, d7, rfl, g1, g2, g3⟩
    have Q7 := Lib.hid g1.fin'
    have P7 := Lib.hid g2
    replace HF := Lib.hid (HF.out.below g3)
    replace Q1 := Lib.hid (Q1.out.below g3)
    replace P1 := Lib.hid (P1.out.below g3)
    clear g1 g2 g3 HCP Q6
    have hw7 := HF.out.ltN 0 rfl
    have hal := Lib.hid ((Below.refl _ V7).alloc (Nat.le_refl _) (.cells #[.bool (decide (cy.num < 0)), .slice A7 (dg cy.num.natAbs).length c7, .slice B7 (dg cy.den).length d7] 31))
    replace HF := Lib.hid (HF.out.box [.bool (decide (cy.num < 0)), .slice A7 (dg cy.num.natAbs).length c7, .slice B7 (dg cy.den).length d7] 31)
    replace Q1 := Lib.hid (Q1.out.below hal.out)
    replace P1 := Lib.hid (P1.out.below hal.out)
    replace Q7 := Lib.hid (Q7.out.below hal.out)
    replace P7 := Lib.hid (P7.out.below hal.out)
    clear hal
    have hS7 := Lib.hid (fun (W : World) (k1 : FIn W E1 e1 p) (k2 : FIn W E7 e7 p) => same_FormB E1 e1 E7 e7 p p W k1 k2 (by omega) (by omega))
    rw [decide_eq_true (rfl : p = p)] at hS7
    by_cases hp0 : p = []
    · have hn0 : n = [] := hnil1.out hp0
      subst hp0
      subst hn0
      simp only [List.length_nil] at hS7 ⊢
      go_wp2_with fail
      obtain ⟨gy, hgy⟩ : ∃ g, g = V7.heap.size := ⟨_, rfl⟩
      rw [← hgy] at HF hw7 ⊢
      generalize V7.alloc _ = W at HF Q1 P1 Q7 P7 ⊢
      clear hgy
      replace Q1 := Lib.hid (Q1.out.below (Below.drew (Below.refl _ _)))
      replace P1 := Lib.hid (P1.out.below (Below.drew (Below.refl _ _)))
      replace Q7 := Lib.hid (Q7.out.below (Below.drew (Below.refl _ _)))
      replace P7 := Lib.hid (P7.out.below (Below.drew (Below.refl _ _)))
      have HF_ := Lib.hid HF.out.drew
      clear HF
      have HF := HF_
      clear HF_
      refine start_ (n := 17) (S := fun w' => True) (ds := []) #[false, false, false, false, false, false, false, false, false, false, false, false, false, false, false, false, false] (by kernel_rfl) rfl rfl trivial (fun hHeld => ?_)
      generalize World.drew _ = W at *
      refine pure_ (i := 0) (N := (some 41)) (v := ?_) (a' := ?_) #[true, false, false, false, false, false, false, false, false, false, false, false, false, false, false, false, false] rfl rfl (by kernel_rfl) (fun _ _ _ h => h) (Or.inl ⟨by rfl, ?_⟩) ?_ ?_
      rotate_left
      · intro w'
        go_simp
        with_reducible rfl
      rotate_left
      · simp only [Act.put, List.setIfInBounds_toArray, List.set_cons_zero, List.set_cons_succ]
        rfl
      refine pure_ (i := 1) (N := (some 42)) (v := ?_) (a' := ?_) #[true, true, false, false, false, false, false, false, false, false, false, false, false, false, false, false, false] rfl rfl (by kernel_rfl) (fun _ _ _ h => h) (Or.inl ⟨by rfl, ?_⟩) ?_ ?_
      rotate_left
      · intro w'
        go_simp
        with_reducible rfl
      rotate_left
      · simp only [Act.put, List.setIfInBounds_toArray, List.set_cons_zero, List.set_cons_succ]
        rfl
      refine one_ (i := 2) (N := (some 43)) #[true, true, true, false, false, false, false, false, false, false, false, false, false, false, false, false, false] rfl rfl (by kernel_rfl) (by decide) (fun K hK => ?_)
      refine goes_ Try.func24 (by kernel_rfl) rfl #[.slice E1 0 e1, .slice E7 0 e7] (by rfl) rfl rfl (by (try simp only [List.map_toArray, List.map_cons, List.map_nil]); first | done | rfl) ?_
      refine (hS7.out W Q1.out Q7.out).mono ?_
      rintro e W1 ⟨rfl, h2⟩
      refine ⟨_, rfl, ?_⟩
      replace HF := Lib.hid (HF.out.below h2)
      replace Q1 := Lib.hid (Q1.out.below h2)
      replace P1 := Lib.hid (P1.out.below h2)
      clear h2 Q7 P7 hS7
      refine hK.out _ _ trivial (fun hHeld => ?_)
      clear hK K
      refine norm_ (a' := ?_) ?_ ?_
      rotate_left
      · show Act.put _ (some 43) _ = _
        simp only [Act.put, List.setIfInBounds_toArray, List.set_cons_zero, List.set_cons_succ]
        rfl
      refine pure_ (i := 3) (N := (some 44)) (v := ?_) (a' := ?_) #[true, true, true, true, false, false, false, false, false, false, false, false, false, false, false, false, false] rfl rfl (by kernel_rfl) (fun _ _ _ h => h) (Or.inl ⟨by rfl, ?_⟩) ?_ ?_
      rotate_left
      · intro w'
        go_simp
        with_reducible rfl
      rotate_left
      · simp only [Act.put, List.setIfInBounds_toArray, List.set_cons_zero, List.set_cons_succ]
        rfl
      refine pure_ (i := 4) (N := (some 45)) (v := ?_) (a' := ?_) #[true, true, true, true, true, false, false, false, false, false, false, false, false, false, false, false, false] rfl rfl (by kernel_rfl) (fun _ _ _ h => h) (Or.inl ⟨by rfl, ?_⟩) ?_ ?_
      rotate_left
      · intro w'
        go_simp
        with_reducible rfl
      rotate_left
      · simp only [Act.put, List.setIfInBounds_toArray, List.set_cons_zero, List.set_cons_succ]
        rfl
      refine pure_ (i := 5) (N := (some 46)) (v := ?_) (a' := ?_) #[true, true, true, true, true, true, false, false, false, false, false, false, false, false, false, false, false] rfl rfl (by kernel_rfl) (fun _ _ _ h => h) (Or.inl ⟨by rfl, ?_⟩) ?_ ?_
      rotate_left
      · intro w'
        go_simp
        with_reducible rfl
      rotate_left
      · simp only [Act.put, List.setIfInBounds_toArray, List.set_cons_zero, List.set_cons_succ]
        rfl
      refine pure_ (i := 6) (N := (some 47)) (v := ?_) (a' := ?_) #[true, true, true, true, true, true, true, false, false, false, false, false, false, false, false, false, false] rfl rfl (by kernel_rfl) (fun _ _ _ h => h) (Or.inl ⟨by rfl, ?_⟩) ?_ ?_
      rotate_left
      · intro w'
        go_simp
        with_reducible rfl
      rotate_left
      · simp only [Act.put, List.setIfInBounds_toArray, List.set_cons_zero, List.set_cons_succ]
        rfl
      refine pure_ (i := 7) (N := (some 48)) (v := ?_) (a' := ?_) #[true, true, true, true, true, true, true, true, false, false, false, false, false, false, false, false, false] rfl rfl (by kernel_rfl) (fun _ _ _ h => h) (Or.inl ⟨by rfl, ?_⟩) ?_ ?_
      rotate_left
      · intro w'
        go_simp
        with_reducible rfl
      rotate_left
      · simp only [Act.put, List.setIfInBounds_toArray, List.set_cons_zero, List.set_cons_succ]
        rfl
      refine pure_ (i := 8) (N := (some 49)) (v := ?_) (a' := ?_) #[true, true, true, true, true, true, true, true, true, false, false, false, false, false, false, false, false] rfl rfl (by kernel_rfl) (fun _ _ _ h => h) (Or.inl ⟨by rfl, ?_⟩) ?_ ?_
      rotate_left
      · intro w'
        go_simp
        with_reducible rfl
      rotate_left
      · simp only [Act.put, List.setIfInBounds_toArray, List.set_cons_zero, List.set_cons_succ]
        rfl
      refine take_ (i := 9) (N := (some 50)) (v := undef) (a' := ?_) #[true, true, true, true, true, true, true, true, true, true, false, false, false, false, false, false, false] rfl rfl (by kernel_rfl) (fun _ _ _ h => h) (Or.inr ⟨by rfl, rfl⟩) hHeld ?_ ?_
      rotate_left
      · simp only [Act.put, List.setIfInBounds_toArray, List.set_cons_zero, List.set_cons_succ]
        rfl
      refine take_ (i := 10) (N := (some 51)) (v := undef) (a' := ?_) #[true, true, true, true, true, true, true, true, true, true, true, false, false, false, false, false, false] rfl rfl (by kernel_rfl) (fun _ _ _ h => h) (Or.inr ⟨by rfl, rfl⟩) hHeld ?_ ?_
      rotate_left
      · simp only [Act.put, List.setIfInBounds_toArray, List.set_cons_zero, List.set_cons_succ]
        rfl
      refine take_ (i := 11) (N := (some 52)) (v := undef) (a' := ?_) #[true, true, true, true, true, true, true, true, true, true, true, true, false, false, false, false, false] rfl rfl (by kernel_rfl) (fun _ _ _ h => h) (Or.inr ⟨by rfl, rfl⟩) hHeld ?_ ?_
      rotate_left
      · simp only [Act.put, List.setIfInBounds_toArray, List.set_cons_zero, List.set_cons_succ]
        rfl
      refine one_ (i := 12) (N := (some 53)) #[true, true, true, true, true, true, true, true, true, true, true, true, true, false, false, false, false] rfl rfl (by kernel_rfl) (by decide) (fun K hK => ?_)
      refine off_ (by rfl) ?_
      refine hK.out _ _ trivial (fun hHeld => ?_)
      clear hK K
      refine norm_ (a' := ?_) ?_ ?_
      rotate_left
      · show Act.put _ (some 53) _ = _
        simp only [Act.put, List.setIfInBounds_toArray, List.set_cons_zero, List.set_cons_succ]
        rfl
      refine one_ (i := 13) (N := (some 54)) #[true, true, true, true, true, true, true, true, true, true, true, true, true, true, false, false, false] rfl rfl (by kernel_rfl) (by decide) (fun K hK => ?_)
      refine off_ (by rfl) ?_
      refine hK.out _ _ trivial (fun hHeld => ?_)
      clear hK K
      refine norm_ (a' := ?_) ?_ ?_
      rotate_left
      · show Act.put _ (some 54) _ = _
        simp only [Act.put, List.setIfInBounds_toArray, List.set_cons_zero, List.set_cons_succ]
        rfl
      refine pure_ (i := 14) (N := (some 55)) (v := undef) (a' := ?_) #[true, true, true, true, true, true, true, true, true, true, true, true, true, true, true, false, false] rfl rfl (by kernel_rfl) (fun _ _ _ h => h) (Or.inr ⟨by rfl, rfl⟩) ?_ ?_
      rotate_left
      · simp only [Act.put, List.setIfInBounds_toArray, List.set_cons_zero, List.set_cons_succ]
        rfl
      refine pure_ (i := 15) (N := (some 56)) (v := ?_) (a' := ?_) #[true, true, true, true, true, true, true, true, true, true, true, true, true, true, true, true, false] rfl rfl (by kernel_rfl) (fun _ _ _ h => h) (Or.inl ⟨by rfl, ?_⟩) ?_ ?_
      rotate_left
      · intro w'
        go_simp
        with_reducible rfl
      rotate_left
      · simp only [Act.put, List.setIfInBounds_toArray, List.set_cons_zero, List.set_cons_succ]
        rfl
      refine pure_ (i := 16) (N := (some 57)) (v := ?_) (a' := ?_) #[true, true, true, true, true, true, true, true, true, true, true, true, true, true, true, true, true] rfl rfl (by kernel_rfl) (fun _ _ _ h => h) (Or.inl ⟨by rfl, ?_⟩) ?_ ?_
      rotate_left
      · intro w'
        go_simp
        with_reducible rfl
      rotate_left
      · simp only [Act.put, List.setIfInBounds_toArray, List.set_cons_zero, List.set_cons_succ]
        rfl
      refine done_ (by kernel_rfl) ?_
      go_wp2_with fail
      refine (hP2.out _ HF.out.bel).mono ?_
      rintro e V8 ⟨E8, e8, A8, c8, B8, d8, rfl, g1, g2, g3⟩
      have Q8 := Lib.hid g1.fin'
      replace HF := Lib.hid (HF.out.below g3)
      replace Q1 := Lib.hid (Q1.out.below g3)
      clear g1 g2 g3 hP2
      have hal := Lib.hid ((Below.refl _ V8).alloc (Nat.le_refl _) (.cells #[.bool (decide (y.num < 0)), .slice A8 (dg y.num.natAbs).length c8, .slice B8 (dg y.den).length d8] 31))
      replace HF := Lib.hid (HF.out.below hal.out)
      replace Q1 := Lib.hid (Q1.out.below hal.out)
      replace Q8 := Lib.hid (Q8.out.below hal.out)
      clear hal
      have hS := Lib.hid (fun (W : World) (k1 : FIn W E1 e1 []) (k2 : FIn W E8 e8 r) => same_FormB E1 e1 E8 e8 [] r W k1 k2 (by decide) (by omega))
      simp only [List.length_nil] at hS
      go_wp2_with fail
      generalize V8.alloc _ = W at HF Q1 Q8 ⊢
      refine (hS.out _ Q1.out Q8.out).mono ?_
      rintro e V9 ⟨rfl, h2⟩
      replace HF := Lib.hid (HF.out.below h2)
      clear h2 hS Q1 Q8
      by_cases hpr : ([] : Frm) = r
      · rw [decide_eq_true hpr]
        clear hpr hsame hother hN1 hN2 hnil2
        go_wp2_with fail
        refine (hK.out _).mono ?_
        rintro e V10 ⟨rfl, h2⟩
        replace HF := Lib.hid (HF.out.below h2)
        clear h2
        go_wp2
        go_ret
        exact ⟨rfl, HF.out.bel⟩
      · rw [decide_eq_false hpr]
        have hm0 : m ≠ [] := fun e => hpr (hsnG'.out e).symm
        clear hpr hsame hother hDv hnil2
        go_wp2_with fail
        refine (hN1.out _ HF.out.bel).mono ?_
        rintro e V10 ⟨v_, rfl, h1, h2⟩
        obtain ⟨E9, e9, rfl, h3⟩ := h1.fin
        replace HF := Lib.hid (HF.out.below h2)
        clear h1 h2 h3 hN1
        simp only [List.length_nil]
        go_wp2_with fail
        refine (hN2.out _ HF.out.bel).mono ?_
        rintro e V11 ⟨v_, rfl, h1, h2⟩
        obtain ⟨E10, e10, rfl, h3⟩ := h1.fin
        replace HF := Lib.hid (HF.out.below h2)
        clear h1 h2 h3 hN2
        have hm1 : 0 < m.length := List.length_pos_iff.2 hm0
        have hm2 : (0 : Int) < (m.length : Int) := by omega
        clear hm0
        go_wp2
        go_ret
        exact ⟨rfl, HF.out.bel⟩
    · have hn0 : n ≠ [] := fun e => hp0 (hsnF'.out e)
      have hp1 : 0 < p.length := List.length_pos_iff.2 hp0
      have hp2 : (0 : Int) < (p.length : Int) := by omega
      have hcy := HCY.out hn0
      rw [← hcy] at hml hcm
      clear hn0 hp0 hcy HCY
      go_wp2_with fail
      obtain ⟨gy, hgy⟩ : ∃ g, g = V7.heap.size := ⟨_, rfl⟩
      rw [← hgy] at HF hw7 ⊢
      generalize V7.alloc _ = W at HF Q1 P1 Q7 P7 ⊢
      clear hgy
      replace Q1 := Lib.hid (Q1.out.below (Below.drew (Below.refl _ _)))
      replace P1 := Lib.hid (P1.out.below (Below.drew (Below.refl _ _)))
      replace Q7 := Lib.hid (Q7.out.below (Below.drew (Below.refl _ _)))
      replace P7 := Lib.hid (P7.out.below (Below.drew (Below.refl _ _)))
      have HF_ := Lib.hid HF.out.drew
      clear HF
      have HF := HF_
      clear HF_
      refine start_ (n := 17) (S := fun w' => w'.cell? ⟨gy, 0, none⟩ = some (.bool (decide (cy.num < 0))) ∧ w'.cell? ⟨gy, 1, none⟩ = some (.slice A7 (dg cy.num.natAbs).length c7) ∧ w'.cell? ⟨gy, 2, none⟩ = some (.slice B7 (dg cy.den).length d7) ∧ w'.cell? ⟨gx, 0, none⟩ = some (.bool (decide (x.num < 0))) ∧ w'.cell? ⟨gx, 1, none⟩ = some (.slice A1 (dg x.num.natAbs).length c1) ∧ w'.cell? ⟨gx, 2, none⟩ = some (.slice B1 (dg x.den).length d1) ∧ w'.cell? ⟨w.heap.size, 0, none⟩ = some (.bool sg) ∧ w'.cell? ⟨w.heap.size, 1, none⟩ = some (.slice A xs.length c) ∧ w'.cell? ⟨w.heap.size, 2, none⟩ = some (.slice B ys.length d)) (ds := []) #[false, false, false, false, false, false, false, false, false, false, false, false, false, false, false, false, false] (by kernel_rfl) rfl rfl ⟨HF.out.cellN 0 rfl 0 rfl, HF.out.cellN 0 rfl 1 rfl, HF.out.cellN 0 rfl 2 rfl, HF.out.cellN 1 rfl 0 rfl, HF.out.cellN 1 rfl 1 rfl, HF.out.cellN 1 rfl 2 rfl, HF.out.cellN 2 rfl 0 rfl, HF.out.cellN 2 rfl 1 rfl, HF.out.cellN 2 rfl 2 rfl⟩ (fun hHeld => ?_)
      generalize World.drew _ = W at *
      refine pure_ (i := 0) (N := (some 41)) (v := ?_) (a' := ?_) #[true, false, false, false, false, false, false, false, false, false, false, false, false, false, false, false, false] rfl rfl (by kernel_rfl) (fun _ _ _ h => h) (Or.inl ⟨by rfl, ?_⟩) ?_ ?_
      rotate_left
      · intro w'
        go_simp
        with_reducible rfl
      rotate_left
      · simp only [Act.put, List.setIfInBounds_toArray, List.set_cons_zero, List.set_cons_succ]
        rfl
      refine pure_ (i := 1) (N := (some 42)) (v := ?_) (a' := ?_) #[true, true, false, false, false, false, false, false, false, false, false, false, false, false, false, false, false] rfl rfl (by kernel_rfl) (fun _ _ _ h => h) (Or.inl ⟨by rfl, ?_⟩) ?_ ?_
      rotate_left
      · intro w'
        go_simp
        with_reducible rfl
      rotate_left
      · simp only [Act.put, List.setIfInBounds_toArray, List.set_cons_zero, List.set_cons_succ]
        rfl
      refine one_ (i := 2) (N := (some 43)) #[true, true, true, false, false, false, false, false, false, false, false, false, false, false, false, false, false] rfl rfl (by kernel_rfl) (by decide) (fun K hK => ?_)
      refine goes_ Try.func24 (by kernel_rfl) rfl #[.slice E1 p.length e1, .slice E7 p.length e7] (by rfl) rfl rfl (by (try simp only [List.map_toArray, List.map_cons, List.map_nil]); first | done | rfl) ?_
      refine (hS7.out W Q1.out Q7.out).mono ?_
      rintro e W1 ⟨rfl, h2⟩
      refine ⟨_, rfl, ?_⟩
      replace HF := Lib.hid (HF.out.below h2)
      replace Q1 := Lib.hid (Q1.out.below h2)
      replace P1 := Lib.hid (P1.out.below h2)
      replace P7 := Lib.hid (P7.out.below h2)
      clear h2 Q7 hS7
      refine hK.out _ _ ⟨HF.out.cellN 0 rfl 0 rfl, HF.out.cellN 0 rfl 1 rfl, HF.out.cellN 0 rfl 2 rfl, HF.out.cellN 1 rfl 0 rfl, HF.out.cellN 1 rfl 1 rfl, HF.out.cellN 1 rfl 2 rfl, HF.out.cellN 2 rfl 0 rfl, HF.out.cellN 2 rfl 1 rfl, HF.out.cellN 2 rfl 2 rfl⟩ (fun hHeld => ?_)
      clear hK K
      refine norm_ (a' := ?_) ?_ ?_
      rotate_left
      · show Act.put _ (some 43) _ = _
        simp only [Act.put, List.setIfInBounds_toArray, List.set_cons_zero, List.set_cons_succ]
        rfl
      refine pure_ (i := 3) (N := (some 44)) (v := ?_) (a' := ?_) #[true, true, true, true, false, false, false, false, false, false, false, false, false, false, false, false, false] rfl rfl (by kernel_rfl) (fun _ _ _ h => h) (Or.inl ⟨by rfl, ?_⟩) ?_ ?_
      rotate_left
      · intro w'
        go_simp
        with_reducible rfl
      rotate_left
      · simp only [Act.put, List.setIfInBounds_toArray, List.set_cons_zero, List.set_cons_succ]
        rfl
      refine pure_ (i := 4) (N := (some 45)) (v := ?_) (a' := ?_) #[true, true, true, true, true, false, false, false, false, false, false, false, false, false, false, false, false] rfl rfl (by kernel_rfl) (fun _ _ _ h => h) (Or.inl ⟨by rfl, ?_⟩) ?_ ?_
      rotate_left
      · intro w'
        go_simp
        with_reducible rfl
      rotate_left
      · simp only [Act.put, List.setIfInBounds_toArray, List.set_cons_zero, List.set_cons_succ]
        rfl
      refine pure_ (i := 5) (N := (some 46)) (v := ?_) (a' := ?_) #[true, true, true, true, true, true, false, false, false, false, false, false, false, false, false, false, false] rfl rfl (by kernel_rfl) (fun _ _ _ h => h) (Or.inl ⟨by rfl, ?_⟩) ?_ ?_
      rotate_left
      · intro w'
        go_simp
        with_reducible rfl
      rotate_left
      · simp only [Act.put, List.setIfInBounds_toArray, List.set_cons_zero, List.set_cons_succ]
        rfl
      refine pure_ (i := 6) (N := (some 47)) (v := ?_) (a' := ?_) #[true, true, true, true, true, true, true, false, false, false, false, false, false, false, false, false, false] rfl rfl (by kernel_rfl) (fun _ _ _ h => h) (Or.inl ⟨by rfl, ?_⟩) ?_ ?_
      rotate_left
      · intro w'
        go_simp
        with_reducible rfl
      rotate_left
      · simp only [Act.put, List.setIfInBounds_toArray, List.set_cons_zero, List.set_cons_succ]
        rfl
      refine pure_ (i := 7) (N := (some 48)) (v := ?_) (a' := ?_) #[true, true, true, true, true, true, true, true, false, false, false, false, false, false, false, false, false] rfl rfl (by kernel_rfl) (fun _ _ _ h => h) (Or.inl ⟨by rfl, ?_⟩) ?_ ?_
      rotate_left
      · intro w'
        go_simp
        with_reducible rfl
      rotate_left
      · simp only [Act.put, List.setIfInBounds_toArray, List.set_cons_zero, List.set_cons_succ]
        rfl
      refine pure_ (i := 8) (N := (some 49)) (v := ?_) (a' := ?_) #[true, true, true, true, true, true, true, true, true, false, false, false, false, false, false, false, false] rfl rfl (by kernel_rfl) (fun _ _ _ h => h) (Or.inl ⟨by rfl, ?_⟩) ?_ ?_
      rotate_left
      · intro w'
        go_simp
        with_reducible rfl
      rotate_left
      · simp only [Act.put, List.setIfInBounds_toArray, List.set_cons_zero, List.set_cons_succ]
        rfl
      refine take_ (i := 9) (N := (some 50)) (v := ?_) (a' := ?_) #[true, true, true, true, true, true, true, true, true, true, false, false, false, false, false, false, false] rfl rfl (by kernel_rfl) (fun _ _ _ h => h) (Or.inl ⟨by rfl, ?_⟩) hHeld ?_ ?_
      rotate_left
      · rintro w' ⟨s0, s1, s2, s3, s4, s5, s6, s7, s8⟩
        go_simp
        with_reducible rfl
      rotate_left
      · simp only [Act.put, List.setIfInBounds_toArray, List.set_cons_zero, List.set_cons_succ]
        rfl
      refine take_ (i := 10) (N := (some 51)) (v := ?_) (a' := ?_) #[true, true, true, true, true, true, true, true, true, true, true, false, false, false, false, false, false] rfl rfl (by kernel_rfl) (fun _ _ _ h => h) (Or.inl ⟨by rfl, ?_⟩) hHeld ?_ ?_
      rotate_left
      · rintro w' ⟨s0, s1, s2, s3, s4, s5, s6, s7, s8⟩
        go_simp
        with_reducible rfl
      rotate_left
      · simp only [Act.put, List.setIfInBounds_toArray, List.set_cons_zero, List.set_cons_succ]
        rfl
      refine take_ (i := 11) (N := (some 52)) (v := ?_) (a' := ?_) #[true, true, true, true, true, true, true, true, true, true, true, true, false, false, false, false, false] rfl rfl (by kernel_rfl) (fun _ _ _ h => h) (Or.inl ⟨by rfl, ?_⟩) hHeld ?_ ?_
      rotate_left
      · rintro w' ⟨s0, s1, s2, s3, s4, s5, s6, s7, s8⟩
        go_simp
        with_reducible rfl
      rotate_left
      · simp only [Act.put, List.setIfInBounds_toArray, List.set_cons_zero, List.set_cons_succ]
        rfl
      refine one_ (i := 12) (N := (some 53)) #[true, true, true, true, true, true, true, true, true, true, true, true, true, false, false, false, false] rfl rfl (by kernel_rfl) (by decide) (fun K hK => ?_)
      refine goes_ Try.func51 (by kernel_rfl) rfl #[.agg #[.bool sg, .slice A xs.length c, .slice B ys.length d], .agg #[.bool (decide (x.num < 0)), .slice A1 (dg x.num.natAbs).length c1, .slice B1 (dg x.den).length d1]] (by rfl) rfl rfl (by (try simp only [List.map_toArray, List.map_cons, List.map_nil]); first | done | rfl) ?_
      refine (hml.out W1 HF.out.bel A1 c1 B1 d1 P1.out).mono ?_
      rintro e W2 ⟨A5, c5, B5, d5, rfl, q1, q2, q3⟩
      refine ⟨_, rfl, ?_⟩
      replace HF := Lib.hid (HF.out.below q3)
      replace Q1 := Lib.hid (Q1.out.below q3)
      replace P1 := Lib.hid (P1.out.below q3)
      replace P7 := Lib.hid (P7.out.below q3)
      have P5 := Lib.hid (InQ.mk q1 q2)
      clear q1 q2 q3 hml
      refine hK.out _ _ ⟨HF.out.cellN 0 rfl 0 rfl, HF.out.cellN 0 rfl 1 rfl, HF.out.cellN 0 rfl 2 rfl, HF.out.cellN 1 rfl 0 rfl, HF.out.cellN 1 rfl 1 rfl, HF.out.cellN 1 rfl 2 rfl, HF.out.cellN 2 rfl 0 rfl, HF.out.cellN 2 rfl 1 rfl, HF.out.cellN 2 rfl 2 rfl⟩ (fun hHeld => ?_)
      clear hK K
      refine norm_ (a' := ?_) ?_ ?_
      rotate_left
      · show Act.put _ (some 53) _ = _
        simp only [Act.put, List.setIfInBounds_toArray, List.set_cons_zero, List.set_cons_succ]
        rfl
      refine one_ (i := 13) (N := (some 54)) #[true, true, true, true, true, true, true, true, true, true, true, true, true, true, false, false, false] rfl rfl (by kernel_rfl) (by decide) (fun K hK => ?_)
      refine goes_ Try.func50 (by kernel_rfl) rfl #[.agg #[.bool (decide (cy.num < 0)), .slice A7 (dg cy.num.natAbs).length c7, .slice B7 (dg cy.den).length d7], .agg #[.bool (decide (cy.num < 0)), .slice A5 (dg cy.num.natAbs).length c5, .slice B5 (dg cy.den).length d5]] (by rfl) rfl rfl (by (try simp only [List.map_toArray, List.map_cons, List.map_nil]); first | done | rfl) ?_
      refine (hcm.out W2 A7 c7 B7 d7 A5 c5 B5 d5 P7.out P5.out).mono ?_
      rintro e W3 ⟨rfl, h2⟩
      refine ⟨_, rfl, ?_⟩
      replace HF := Lib.hid (HF.out.below h2)
      replace Q1 := Lib.hid (Q1.out.below h2)
      replace P1 := Lib.hid (P1.out.below h2)
      clear h2 hcm P5 P7
      refine hK.out _ _ ⟨HF.out.cellN 0 rfl 0 rfl, HF.out.cellN 0 rfl 1 rfl, HF.out.cellN 0 rfl 2 rfl, HF.out.cellN 1 rfl 0 rfl, HF.out.cellN 1 rfl 1 rfl, HF.out.cellN 1 rfl 2 rfl, HF.out.cellN 2 rfl 0 rfl, HF.out.cellN 2 rfl 1 rfl, HF.out.cellN 2 rfl 2 rfl⟩ (fun hHeld => ?_)
      clear hK K
      refine norm_ (a' := ?_) ?_ ?_
      rotate_left
      · show Act.put _ (some 54) _ = _
        simp only [Act.put, List.setIfInBounds_toArray, List.set_cons_zero, List.set_cons_succ]
        rfl
      refine pure_ (i := 14) (N := (some 55)) (v := ?_) (a' := ?_) #[true, true, true, true, true, true, true, true, true, true, true, true, true, true, true, false, false] rfl rfl (by kernel_rfl) (fun _ _ _ h => h) (Or.inl ⟨by rfl, ?_⟩) ?_ ?_
      rotate_left
      · intro w'
        go_simp
        with_reducible rfl
      rotate_left
      · simp only [Act.put, List.setIfInBounds_toArray, List.set_cons_zero, List.set_cons_succ]
        rfl
      refine pure_ (i := 15) (N := (some 56)) (v := ?_) (a' := ?_) #[true, true, true, true, true, true, true, true, true, true, true, true, true, true, true, true, false] rfl rfl (by kernel_rfl) (fun _ _ _ h => h) (Or.inl ⟨by rfl, ?_⟩) ?_ ?_
      rotate_left
      · intro w'
        go_simp
        with_reducible rfl
      rotate_left
      · simp only [Act.put, List.setIfInBounds_toArray, List.set_cons_zero, List.set_cons_succ]
        rfl
      refine pure_ (i := 16) (N := (some 57)) (v := ?_) (a' := ?_) #[true, true, true, true, true, true, true, true, true, true, true, true, true, true, true, true, true] rfl rfl (by kernel_rfl) (fun _ _ _ h => h) (Or.inl ⟨by rfl, ?_⟩) ?_ ?_
      rotate_left
      · intro w'
        go_simp
        with_reducible rfl
      rotate_left
      · simp only [Act.put, List.setIfInBounds_toArray, List.set_cons_zero, List.set_cons_succ]
        rfl
      refine done_ (by kernel_rfl) ?_
      clear hp1 hp2
      go_wp2_with fail
      refine (hP2.out _ HF.out.bel).mono ?_
      rintro e V8 ⟨E8, e8, A8, c8, B8, d8, rfl, g1, g2, g3⟩
      have Q8 := Lib.hid g1.fin'
      have P8 := Lib.hid g2
      replace HF := Lib.hid (HF.out.below g3)
      replace Q1 := Lib.hid (Q1.out.below g3)
      replace P1 := Lib.hid (P1.out.below g3)
      clear g1 g2 g3 hP2
      have hw8 := HF.out.ltN 0 rfl
      have hal := Lib.hid ((Below.refl _ V8).alloc (Nat.le_refl _) (.cells #[.bool (decide (y.num < 0)), .slice A8 (dg y.num.natAbs).length c8, .slice B8 (dg y.den).length d8] 31))
      replace HF := Lib.hid (HF.out.box [.bool (decide (y.num < 0)), .slice A8 (dg y.num.natAbs).length c8, .slice B8 (dg y.den).length d8] 31)
      replace Q1 := Lib.hid (Q1.out.below hal.out)
      replace P1 := Lib.hid (P1.out.below hal.out)
      replace Q8 := Lib.hid (Q8.out.below hal.out)
      replace P8 := Lib.hid (P8.out.below hal.out)
      clear hal
      have hS := Lib.hid (fun (W : World) (k1 : FIn W E1 e1 p) (k2 : FIn W E8 e8 r) => same_FormB E1 e1 E8 e8 p r W k1 k2 (by omega) (by omega))
      go_wp2_with fail
      generalize V8.alloc _ = W at HF Q1 P1 Q8 P8 ⊢
      refine (hS.out _ Q1.out Q8.out).mono ?_
      rintro e V9 ⟨rfl, h2⟩
      replace HF := Lib.hid (HF.out.below h2)
      replace P1 := Lib.hid (P1.out.below h2)
      replace P8 := Lib.hid (P8.out.below h2)
      clear h2 hS Q1 Q8
      by_cases hpr : p = r
      · rw [decide_eq_true hpr]
        replace hsame := Lib.hid (hsame.out hpr)
        clear hpr hother hN1
        by_cases hp0 : p = []
        · subst hp0
          simp only [List.length_nil]
          go_wp2_with fail
          refine (hK.out _).mono ?_
          rintro e V10 ⟨rfl, h2⟩
          replace HF := Lib.hid (HF.out.below h2)
          clear h2
          go_wp2
          go_ret
          exact ⟨rfl, HF.out.bel⟩
        · have hp1 : ¬ ((p.length : Nat) : Int) = 0 := fun e => hp0 (List.length_eq_zero_iff.1 (by omega))
          have hp2 : ¬ p.length = 0 := by omega
          have b0 := HF.out.cellN 0 rfl 0 rfl
          have b1 := HF.out.cellN 0 rfl 1 rfl
          have b2 := HF.out.cellN 0 rfl 2 rfl
          have a0 := HF.out.cellN 2 rfl 0 rfl
          have a1 := HF.out.cellN 2 rfl 1 rfl
          have a2 := HF.out.cellN 2 rfl 2 rfl
          clear hp0
          go_wp2_with fail
          refine (hDv.out _ A8 c8 B8 d8 A1 c1 B1 d1 P8.out P1.out).mono ?_
          rintro e V10 ⟨A9, c9, B9, d9, rfl, g1, g3⟩
          replace HF := Lib.hid (HF.out.below g3)
          have P9 := Lib.hid g1
          clear g1 g3 hDv P8 P1 a0 a1 a2 b0 b1 b2
          have hal := Lib.hid ((Below.refl _ V10).alloc (Nat.le_refl _) (.cells #[.bool (decide (kq.num < 0)), .slice A9 (dg kq.num.natAbs).length c9, .slice B9 (dg kq.den).length d9] 31))
          replace HF := Lib.hid (HF.out.box [.bool (decide (kq.num < 0)), .slice A9 (dg kq.num.natAbs).length c9, .slice B9 (dg kq.den).length d9] 31)
          replace P9 := Lib.hid (P9.out.below hal.out)
          clear hal
          have hKk := Lib.hid (hKf.out kq hkk)
          rw [hsame.out] at hKk
          go_wp2_with fail
          generalize V10.alloc _ = W at HF P9 ⊢
          refine (hKk.out _ HF.out.bel A9 c9 B9 d9 P9.out).mono ?_
          rintro e V11 ⟨v_, rfl, h1, h2⟩
          obtain ⟨E9, e9, rfl, h3⟩ := h1.fin
          have Q9 := Lib.hid h3
          replace HF := Lib.hid (HF.out.below h2)
          clear h1 h2 h3 hKk P9
          go_wp2_with fail
          refine (hN2.out _ HF.out.bel).mono ?_
          rintro e V12 ⟨v_, rfl, h1, h2⟩
          obtain ⟨E10, e10, rfl, h3⟩ := h1.fin
          have Q10 := Lib.hid h3
          replace HF := Lib.hid (HF.out.below h2)
          replace Q9 := Lib.hid (Q9.out.below h2)
          clear h1 h2 h3 hN2
          have hS := Lib.hid (same_FormB E9 e9 E10 e10 m m _ Q9.out Q10.out (by omega) (by omega))
          rw [decide_eq_true (rfl : m = m)] at hS
          go_wp2_with fail
          refine hS.out.mono ?_
          rintro e V13 ⟨rfl, h2⟩
          replace HF := Lib.hid (HF.out.below h2)
          clear h2 hS Q9 Q10
          go_wp2
          go_ret
          exact ⟨rfl, HF.out.bel⟩
      · rw [decide_eq_false hpr]
        replace hother := Lib.hid (fun k hk => hother.out k hk hpr)
        have hnm := Lib.hid (show ¬ (n = [] ∧ m = []) from fun h => hpr ((hsnF'.out h.1).trans (hsnG'.out h.2).symm))
        clear hpr hsame hDv
        go_wp2_with fail
        refine (hN1.out _ HF.out.bel).mono ?_
        rintro e V10 ⟨v_, rfl, h1, h2⟩
        obtain ⟨E9, e9, rfl, h3⟩ := h1.fin
        have Q9 := Lib.hid h3
        replace HF := Lib.hid (HF.out.below h2)
        clear h1 h2 h3 hN1
        go_wp2_with fail
        refine (hN2.out _ HF.out.bel).mono ?_
        rintro e V11 ⟨v_, rfl, h1, h2⟩
        obtain ⟨E10, e10, rfl, h3⟩ := h1.fin
        have Q10 := Lib.hid h3
        replace HF := Lib.hid (HF.out.below h2)
        replace Q9 := Lib.hid (Q9.out.below h2)
        clear h1 h2 h3 hN2
        by_cases hn0 : n = []
        · have hm0 : m ≠ [] := fun e => hnm.out ⟨hn0, e⟩
          subst hn0
          have hm1 : 0 < m.length := List.length_pos_iff.2 hm0
          have hm2 : (0 : Int) < (m.length : Int) := by omega
          clear hm0 hnm
          simp only [List.length_nil]
          go_wp2
          go_ret
          exact ⟨rfl, HF.out.bel⟩
        · have hn1 : 0 < n.length := List.length_pos_iff.2 hn0
          have hn2 : (0 : Int) < (n.length : Int) := by omega
          have hn3 : ¬ ((n.length : Nat) : Int) = 0 := by omega
          have hn4 : ¬ n.length = 0 := by omega
          have hn5 : (((n.length : Nat) : Int) == 0) = false := beq_eq_false_iff_ne.2 hn3
          clear hn0
          by_cases hm0 : m = []
          · subst hm0
            clear hnm
            simp only [List.length_nil]
            go_wp2
            go_ret
            exact ⟨rfl, HF.out.bel⟩
          · have hm1 : 0 < m.length := List.length_pos_iff.2 hm0
            have hm2 : (0 : Int) < (m.length : Int) := by omega
            have hm3 : ¬ ((m.length : Nat) : Int) = 0 := by omega
            have hm4 : ¬ m.length = 0 := by omega
            have hm5 : (((m.length : Nat) : Int) == 0) = false := beq_eq_false_iff_ne.2 hm3
            clear hm0 hnm
            obtain ⟨ad, rn, rfl, nvq, nat_, i1, i2, i3, i4⟩ := Q9.out.at_ 0 hn1
            rw [show ad.add (0 * 4) = ad from by rw [Nat.zero_mul]; rfl] at i1 i2 i3 i4
            obtain ⟨bd, rm, rfl, mvq, mat, j1, j2, j3, j4⟩ := Q10.out.at_ 0 hm1
            rw [show bd.add (0 * 4) = bd from by rw [Nat.zero_mul]; rfl] at j1 j2 j3 j4
            have nq : rn.q ≠ 0 := by
              have e : rn.q = n[0].2 := by rw [← nvq]; rfl
              rw [e]; exact hnz1.out _ (List.getElem_mem _)
            have mq : rm.q ≠ 0 := by
              have e : rm.q = m[0].2 := by rw [← mvq]; rfl
              rw [e]; exact hnz2.out _ (List.getElem_mem _)
            have nm : mu rn.q + 1 ≤ mf n := by
              have e : rn.q = n[0].2 := by rw [← nvq]; rfl
              rw [e]; exact hmm1.out _ (List.getElem_mem _)
            have mm : mu rm.q + 1 ≤ mf m := by
              have e : rm.q = m[0].2 := by rw [← mvq]; rfl
              rw [e]; exact hmm2.out _ (List.getElem_mem _)
            have nl := mu_len rn.q
            have ml := mu_len rm.q
            have ni := mu_inv nq
            have hD := Lib.hid (show ∀ (W : World), InQ W rm.A rm.c rm.B rm.d rm.q → InQ W rn.A rn.c rn.B rn.d rn.q → Calls Try.prog 52 #[.agg #[.bool (decide (rm.q.num < 0)), .slice rm.A (dg rm.q.num.natAbs).length rm.c, .slice rm.B (dg rm.q.den).length rm.d], .agg #[.bool (decide (rn.q.num < 0)), .slice rn.A (dg rn.q.num.natAbs).length rn.c, .slice rn.B (dg rn.q.den).length rn.d]] W (ToldE W (rm.q * rn.q⁻¹)) from fun W k1 k2 => by
              have e := r3_Div_some (decide (rm.q.num < 0)) rm.A rm.c _ rm.B rm.d _ (decide (rn.q.num < 0)) rn.A rn.c _ rn.B rn.d _ W k1.num (by omega) k1.den (by omega) k2.num (by omega) k2.den (by omega) (by rw [rv_can]; exact nq) (by rw [rv_can]; omega)
              rw [rv_can, rv_can] at e
              exact e)
            have k0 : rm.q * rn.q⁻¹ ≠ 0 := fun e => (Rat.mul_eq_zero.1 e).elim mq fun e2 => nq (by have := Rat.mul_inv_cancel rn.q nq; rw [e2, Rat.mul_zero] at this; exact absurd this (by decide))
            have km := mu_mul rm.q rn.q⁻¹
            have hKk := Lib.hid (hKf.out (rm.q * rn.q⁻¹) (by omega))
            have hdf := Lib.hid (hother.out _ k0)
            have hlu := nform_len (smul (rm.q * rn.q⁻¹) (fval f))
            rw [smul_length, fval_length] at hlu
            have hfl : f.length ≤ 1048576 := hfl0.out
            generalize nform (smul (rm.q * rn.q⁻¹) (fval f)) = u at *
            have hS := Lib.hid (fun (W : World) (E12 : Option Addr) (e12 : Nat) (k1 : FIn W E12 e12 u) (k2 : FIn W (some bd) e10 m) => same_FormB E12 e12 (some bd) e10 u m W k1 k2 (by omega) (by omega))
            rw [decide_eq_false hdf.out] at hS
            generalize rm.q * rn.q⁻¹ = kk at *
            have NQ := Lib.hid nat_.inq
            have MQ := Lib.hid mat.inq
            have hw11 := HF.out.ltN 0 rfl
            have HG : Hid (Fr V11 V11 []) := Fr.refl V11
            clear nvq nat_ mvq mat nq mq nm mm nl ml ni k0 km hdf hlu
            go_wp2_with fail
            have HF' := HF
            clear HF
            have HF := HG
            have HF_ := Lib.hid HF.out.drew
            clear HF
            have HF := HF_
            clear HF_
            refine start_ (n := 15) (S := fun w' => w'.cell? (nxt ad 1) = some (.bool (decide (rn.q.num < 0))) ∧ w'.cell? (nxt ad 2) = some (.slice rn.A (dg rn.q.num.natAbs).length rn.c) ∧ w'.cell? (nxt ad 3) = some (.slice rn.B (dg rn.q.den).length rn.d) ∧ w'.cell? (nxt bd 1) = some (.bool (decide (rm.q.num < 0))) ∧ w'.cell? (nxt bd 2) = some (.slice rm.A (dg rm.q.num.natAbs).length rm.c) ∧ w'.cell? (nxt bd 3) = some (.slice rm.B (dg rm.q.den).length rm.d)) (ds := []) #[false, false, false, false, false, false, false, false, false, false, false, false, false, false, false] (by kernel_rfl) rfl rfl ⟨cell_below HF.out.bel i2, cell_below HF.out.bel i3, cell_below HF.out.bel i4, cell_below HF.out.bel j2, cell_below HF.out.bel j3, cell_below HF.out.bel j4⟩ (fun hHeld => ?_)
            generalize World.drew _ = W at *
            refine pure_ (i := 0) (N := (some 86)) (v := ?_) (a' := ?_) #[true, false, false, false, false, false, false, false, false, false, false, false, false, false, false] rfl rfl (by kernel_rfl) (fun _ _ _ h => h) (Or.inl ⟨by rfl, ?_⟩) ?_ ?_
            rotate_left
            · intro w'
              go_simp
              with_reducible rfl
            rotate_left
            · simp only [Act.put, List.setIfInBounds_toArray, List.set_cons_zero, List.set_cons_succ]
              rfl
            refine pure_ (i := 1) (N := (some 87)) (v := ?_) (a' := ?_) #[true, true, false, false, false, false, false, false, false, false, false, false, false, false, false] rfl rfl (by kernel_rfl) (fun _ _ _ h => h) (Or.inl ⟨by rfl, ?_⟩) ?_ ?_
            rotate_left
            · intro w'
              go_simp
              with_reducible rfl
            rotate_left
            · simp only [Act.put, List.setIfInBounds_toArray, List.set_cons_zero, List.set_cons_succ]
              rfl
            refine pure_ (i := 2) (N := (some 88)) (v := ?_) (a' := ?_) #[true, true, true, false, false, false, false, false, false, false, false, false, false, false, false] rfl rfl (by kernel_rfl) (fun _ _ _ h => h) (Or.inl ⟨by rfl, ?_⟩) ?_ ?_
            rotate_left
            · intro w'
              go_simp
              with_reducible rfl
            rotate_left
            · simp only [Act.put, List.setIfInBounds_toArray, List.set_cons_zero, List.set_cons_succ]
              rfl
            refine pure_ (i := 4) (N := (some 90)) (v := ?_) (a' := ?_) #[true, true, true, false, true, false, false, false, false, false, false, false, false, false, false] rfl rfl (by kernel_rfl) (fun _ _ _ h => h) (Or.inl ⟨by rfl, ?_⟩) ?_ ?_
            rotate_left
            · intro w'
              go_simp
              with_reducible rfl
            rotate_left
            · simp only [Act.put, List.setIfInBounds_toArray, List.set_cons_zero, List.set_cons_succ]
              rfl
            refine pure_ (i := 5) (N := (some 91)) (v := ?_) (a' := ?_) #[true, true, true, false, true, true, false, false, false, false, false, false, false, false, false] rfl rfl (by kernel_rfl) (fun _ _ _ h => h) (Or.inl ⟨by rfl, ?_⟩) ?_ ?_
            rotate_left
            · intro w'
              go_simp
              with_reducible rfl
            rotate_left
            · simp only [Act.put, List.setIfInBounds_toArray, List.set_cons_zero, List.set_cons_succ]
              rfl
            refine pure_ (i := 6) (N := (some 92)) (v := ?_) (a' := ?_) #[true, true, true, false, true, true, true, false, false, false, false, false, false, false, false] rfl rfl (by kernel_rfl) (fun _ _ _ h => h) (Or.inl ⟨by rfl, ?_⟩) ?_ ?_
            rotate_left
            · intro w'
              go_simp
              with_reducible rfl
            rotate_left
            · simp only [Act.put, List.setIfInBounds_toArray, List.set_cons_zero, List.set_cons_succ]
              rfl
            refine take_ (i := 3) (N := (some 89)) (v := ?_) (a' := ?_) #[true, true, true, true, true, true, true, false, false, false, false, false, false, false, false] rfl rfl (by kernel_rfl) (fun _ _ _ h => h) (Or.inl ⟨by rfl, ?_⟩) hHeld ?_ ?_
            rotate_left
            · rintro w' ⟨s0, s1, s2, s3, s4, s5⟩
              go_simp
              with_reducible rfl
            rotate_left
            · simp only [Act.put, List.setIfInBounds_toArray, List.set_cons_zero, List.set_cons_succ]
              rfl
            refine take_ (i := 7) (N := (some 93)) (v := ?_) (a' := ?_) #[true, true, true, true, true, true, true, true, false, false, false, false, false, false, false] rfl rfl (by kernel_rfl) (fun _ _ _ h => h) (Or.inl ⟨by rfl, ?_⟩) hHeld ?_ ?_
            rotate_left
            · rintro w' ⟨s0, s1, s2, s3, s4, s5⟩
              go_simp
              with_reducible rfl
            rotate_left
            · simp only [Act.put, List.setIfInBounds_toArray, List.set_cons_zero, List.set_cons_succ]
              rfl
            refine join_ (σ := Nat × Option Addr × Nat × Option Addr × Nat) 0 #[true, true, true, true, true, true, true, true, true, true, true, true, true, true, true] (fun ⟨g0, A11, c11, B11, d11⟩ => [(94, .tuple #[.agg #[.bool (decide (kk.num < 0)), .slice A11 (dg kk.num.natAbs).length c11, .slice B11 (dg kk.den).length d11], .int .i64 0]), (85, .tuple #[.agg #[.bool (decide (kk.num < 0)), .slice A11 (dg kk.num.natAbs).length c11, .slice B11 (dg kk.den).length d11], .int .i64 0]), (95, .agg #[.bool (decide (kk.num < 0)), .slice A11 (dg kk.num.natAbs).length c11, .slice B11 (dg kk.den).length d11]), (96, .int .i64 0), (15, .pointer (some ⟨g0, 0, none⟩)), (16, .int .i64 0)]) (fun ⟨g0, A11, c11, B11, d11⟩ W' => Fr V11 W' [(g0, [.bool (decide (kk.num < 0)), .slice A11 (dg kk.num.natAbs).length c11, .slice B11 (dg kk.den).length d11])] ∧ InQ W' A11 c11 B11 d11 kk) ?hc1 ?hm1
            case hm1 =>
              intro hcont
              refine two_ (i := 8) (j := 12) (Ni := (some 94)) (Nj := (some 15)) #[true, true, true, true, true, true, true, true, true, false, false, false, false, false, false] #[true, true, true, true, true, true, true, true, false, false, false, false, true, false, false] rfl rfl rfl rfl (by kernel_rfl) (by decide) (by decide) (fun K hK => ?_) (fun K hK => ?_)
              · refine goes_ Try.func52 (by kernel_rfl) rfl #[.agg #[.bool (decide (rm.q.num < 0)), .slice rm.A (dg rm.q.num.natAbs).length rm.c, .slice rm.B (dg rm.q.den).length rm.d], .agg #[.bool (decide (rn.q.num < 0)), .slice rn.A (dg rn.q.num.natAbs).length rn.c, .slice rn.B (dg rn.q.den).length rn.d]] (by rfl) rfl rfl (by (try simp only [List.map_toArray, List.map_cons, List.map_nil]); first | done | rfl) ?_
                refine (hD.out W (MQ.out.below HF.out.bel) (NQ.out.below HF.out.bel)).mono ?_
                rintro e W1 ⟨A11, c11, B11, d11, rfl, q1, q3⟩
                refine ⟨_, rfl, ?_⟩
                replace HF := Lib.hid (HF.out.below q3)
                have Q11 := Lib.hid q1
                clear q1 q3 MQ NQ
                refine hK.out _ _ ⟨cell_below HF.out.bel i2, cell_below HF.out.bel i3, cell_below HF.out.bel i4, cell_below HF.out.bel j2, cell_below HF.out.bel j3, cell_below HF.out.bel j4⟩ (fun hHeld => ?_)
                clear hK K
                refine norm_ (a' := ?_) ?_ ?_
                rotate_left
                · show Act.put _ (some 94) _ = _
                  simp only [Act.put, List.setIfInBounds_toArray, List.set_cons_zero, List.set_cons_succ]
                  rfl
                refine pure_ (i := 9) (N := (some 85)) (v := ?_) (a' := ?_) #[true, true, true, true, true, true, true, true, true, true, false, false, false, false, false] rfl rfl (by kernel_rfl) (fun _ _ _ h => h) (Or.inl ⟨by rfl, ?_⟩) ?_ ?_
                rotate_left
                · intro w'
                  go_simp
                  with_reducible rfl
                rotate_left
                · simp only [Act.put, List.setIfInBounds_toArray, List.set_cons_zero, List.set_cons_succ]
                  rfl
                refine pure_ (i := 10) (N := (some 95)) (v := ?_) (a' := ?_) #[true, true, true, true, true, true, true, true, true, true, true, false, false, false, false] rfl rfl (by kernel_rfl) (fun _ _ _ h => h) (Or.inl ⟨by rfl, ?_⟩) ?_ ?_
                rotate_left
                · intro w'
                  go_simp
                  with_reducible rfl
                rotate_left
                · simp only [Act.put, List.setIfInBounds_toArray, List.set_cons_zero, List.set_cons_succ]
                  rfl
                refine pure_ (i := 11) (N := (some 96)) (v := ?_) (a' := ?_) #[true, true, true, true, true, true, true, true, true, true, true, true, false, false, false] rfl rfl (by kernel_rfl) (fun _ _ _ h => h) (Or.inl ⟨by rfl, ?_⟩) ?_ ?_
                rotate_left
                · intro w'
                  go_simp
                  with_reducible rfl
                rotate_left
                · simp only [Act.put, List.setIfInBounds_toArray, List.set_cons_zero, List.set_cons_succ]
                  rfl
                refine one_ (i := 12) (N := (some 15)) #[true, true, true, true, true, true, true, true, true, true, true, true, true, false, false] rfl rfl (by kernel_rfl) (by decide) (fun K hK => ?_)
                refine value_ (v := ?_) (w1 := ?_) (by rfl) rfl ?_ ?_
                rotate_left
                rotate_left
                · go_simp
                  first | rfl | (refine ⟨?_, ?_⟩ <;> rfl)
                have hgw : V11.heap.size ≤ W1.heap.size := HF.out.size
                have hbe := Lib.hid ((Below.refl _ W1).alloc (Nat.le_refl _) (.cells #[.bool false, .slice none 0 0, .slice none 0 0] 31))
                try replace Q11 := Lib.hid (Q11.out.below hbe.out)
                replace HF := Lib.hid (HF.out.boxEnd [.bool false, .slice none 0 0, .slice none 0 0] 31)
                refine hK.out _ _ ⟨cell_below HF.out.bel i2, cell_below HF.out.bel i3, cell_below HF.out.bel i4, cell_below HF.out.bel j2, cell_below HF.out.bel j3, cell_below HF.out.bel j4⟩ (fun hHeld => ?_)
                clear hK K
                refine norm_ (a' := ?_) ?_ ?_
                rotate_left
                · show Act.put _ (some 15) _ = _
                  simp only [Act.put, List.setIfInBounds_toArray, List.set_cons_zero, List.set_cons_succ]
                  rfl
                obtain ⟨g0, hg0⟩ : ∃ g0, g0 = W1.heap.size := ⟨_, rfl⟩
                obtain ⟨W2, hV⟩ : ∃ X, X = W1.alloc (.cells #[.bool false, .slice none 0 0, .slice none 0 0] 31) := ⟨_, rfl⟩
                rw [← hg0] at HF hgw ⊢
                rw [← hV] at HF ⊢
                try rw [← hV] at Q11
                clear hg0 hV hbe
                refine one_ (i := 13) (N := none) #[true, true, true, true, true, true, true, true, true, true, true, true, true, true, false] rfl rfl (by kernel_rfl) (by decide) (fun K hK => ?_)
                have hf0 := HF.out.frozenN 0 rfl 0
                have hf1 := HF.out.frozenN 0 rfl 1
                have hf2 := HF.out.frozenN 0 rfl 2
                have hd0 := HF.out.cellN 0 rfl 0 rfl
                have hd1 := HF.out.cellN 0 rfl 1 rfl
                have hd2 := HF.out.cellN 0 rfl 2 rfl
                refine skip_ (w1 := ?_) (by rfl) rfl ?_ ?_
                rotate_left
                · go_simp
                  rfl
                replace Q11 := Lib.hid (Q11.out.put3 (HF.out.ownN 0 rfl) (by simp) (a := .bool (decide (kk.num < 0))) (by simp) (b := .slice A11 (dg kk.num.natAbs).length c11) (by simp) (.slice B11 (dg kk.den).length d11))
                replace HF := Lib.hid (HF.out.put3 0 rfl hgw (by simp) (.bool (decide (kk.num < 0))) (.slice A11 (dg kk.num.natAbs).length c11) (.slice B11 (dg kk.den).length d11))
                refine hK.out _ _ ⟨cell_below HF.out.bel i2, cell_below HF.out.bel i3, cell_below HF.out.bel i4, cell_below HF.out.bel j2, cell_below HF.out.bel j3, cell_below HF.out.bel j4⟩ (fun hHeld => ?_)
                clear hK K
                refine pure_ (i := 14) (N := (some 16)) (v := ?_) (a' := ?_) #[true, true, true, true, true, true, true, true, true, true, true, true, true, true, true] rfl rfl (by kernel_rfl) (fun _ _ _ h => h) (Or.inl ⟨by rfl, ?_⟩) ?_ ?_
                rotate_left
                · intro w'
                  go_simp
                  with_reducible rfl
                rotate_left
                · simp only [Act.put, List.setIfInBounds_toArray, List.set_cons_zero, List.set_cons_succ]
                  rfl
                exact hcont (g0, A11, c11, B11, d11) _ ⟨HF.out, Q11.out⟩
              · refine value_ (v := ?_) (w1 := ?_) (by rfl) rfl ?_ ?_
                rotate_left
                rotate_left
                · go_simp
                  first | rfl | (refine ⟨?_, ?_⟩ <;> rfl)
                have hgw : V11.heap.size ≤ W.heap.size := HF.out.size
                have hbe := Lib.hid ((Below.refl _ W).alloc (Nat.le_refl _) (.cells #[.bool false, .slice none 0 0, .slice none 0 0] 31))
                try replace Q11 := Lib.hid (Q11.out.below hbe.out)
                replace HF := Lib.hid (HF.out.boxEnd [.bool false, .slice none 0 0, .slice none 0 0] 31)
                refine hK.out _ _ ⟨cell_below HF.out.bel i2, cell_below HF.out.bel i3, cell_below HF.out.bel i4, cell_below HF.out.bel j2, cell_below HF.out.bel j3, cell_below HF.out.bel j4⟩ (fun hHeld => ?_)
                clear hK K
                refine norm_ (a' := ?_) ?_ ?_
                rotate_left
                · show Act.put _ (some 15) _ = _
                  simp only [Act.put, List.setIfInBounds_toArray, List.set_cons_zero, List.set_cons_succ]
                  rfl
                obtain ⟨g0, hg0⟩ : ∃ g0, g0 = W.heap.size := ⟨_, rfl⟩
                obtain ⟨W3, hV⟩ : ∃ X, X = W.alloc (.cells #[.bool false, .slice none 0 0, .slice none 0 0] 31) := ⟨_, rfl⟩
                rw [← hg0] at HF hgw ⊢
                rw [← hV] at HF ⊢
                try rw [← hV] at Q11
                clear hg0 hV hbe
                refine one_ (i := 8) (N := (some 94)) #[true, true, true, true, true, true, true, true, true, false, false, false, true, false, false] rfl rfl (by kernel_rfl) (by decide) (fun K hK => ?_)
                refine goes_ Try.func52 (by kernel_rfl) rfl #[.agg #[.bool (decide (rm.q.num < 0)), .slice rm.A (dg rm.q.num.natAbs).length rm.c, .slice rm.B (dg rm.q.den).length rm.d], .agg #[.bool (decide (rn.q.num < 0)), .slice rn.A (dg rn.q.num.natAbs).length rn.c, .slice rn.B (dg rn.q.den).length rn.d]] (by rfl) rfl rfl (by (try simp only [List.map_toArray, List.map_cons, List.map_nil]); first | done | rfl) ?_
                refine (hD.out W3 (MQ.out.below HF.out.bel) (NQ.out.below HF.out.bel)).mono ?_
                rintro e W4 ⟨A11, c11, B11, d11, rfl, q1, q3⟩
                refine ⟨_, rfl, ?_⟩
                replace HF := Lib.hid (HF.out.below q3)
                have Q11 := Lib.hid q1
                clear q1 q3 MQ NQ
                refine hK.out _ _ ⟨cell_below HF.out.bel i2, cell_below HF.out.bel i3, cell_below HF.out.bel i4, cell_below HF.out.bel j2, cell_below HF.out.bel j3, cell_below HF.out.bel j4⟩ (fun hHeld => ?_)
                clear hK K
                refine norm_ (a' := ?_) ?_ ?_
                rotate_left
                · show Act.put _ (some 94) _ = _
                  simp only [Act.put, List.setIfInBounds_toArray, List.set_cons_zero, List.set_cons_succ]
                  rfl
                refine pure_ (i := 9) (N := (some 85)) (v := ?_) (a' := ?_) #[true, true, true, true, true, true, true, true, true, true, false, false, true, false, false] rfl rfl (by kernel_rfl) (fun _ _ _ h => h) (Or.inl ⟨by rfl, ?_⟩) ?_ ?_
                rotate_left
                · intro w'
                  go_simp
                  with_reducible rfl
                rotate_left
                · simp only [Act.put, List.setIfInBounds_toArray, List.set_cons_zero, List.set_cons_succ]
                  rfl
                refine pure_ (i := 10) (N := (some 95)) (v := ?_) (a' := ?_) #[true, true, true, true, true, true, true, true, true, true, true, false, true, false, false] rfl rfl (by kernel_rfl) (fun _ _ _ h => h) (Or.inl ⟨by rfl, ?_⟩) ?_ ?_
                rotate_left
                · intro w'
                  go_simp
                  with_reducible rfl
                rotate_left
                · simp only [Act.put, List.setIfInBounds_toArray, List.set_cons_zero, List.set_cons_succ]
                  rfl
                refine pure_ (i := 11) (N := (some 96)) (v := ?_) (a' := ?_) #[true, true, true, true, true, true, true, true, true, true, true, true, true, false, false] rfl rfl (by kernel_rfl) (fun _ _ _ h => h) (Or.inl ⟨by rfl, ?_⟩) ?_ ?_
                rotate_left
                · intro w'
                  go_simp
                  with_reducible rfl
                rotate_left
                · simp only [Act.put, List.setIfInBounds_toArray, List.set_cons_zero, List.set_cons_succ]
                  rfl
                refine one_ (i := 13) (N := none) #[true, true, true, true, true, true, true, true, true, true, true, true, true, true, false] rfl rfl (by kernel_rfl) (by decide) (fun K hK => ?_)
                have hf0 := HF.out.frozenN 0 rfl 0
                have hf1 := HF.out.frozenN 0 rfl 1
                have hf2 := HF.out.frozenN 0 rfl 2
                have hd0 := HF.out.cellN 0 rfl 0 rfl
                have hd1 := HF.out.cellN 0 rfl 1 rfl
                have hd2 := HF.out.cellN 0 rfl 2 rfl
                refine skip_ (w1 := ?_) (by rfl) rfl ?_ ?_
                rotate_left
                · go_simp
                  rfl
                replace Q11 := Lib.hid (Q11.out.put3 (HF.out.ownN 0 rfl) (by simp) (a := .bool (decide (kk.num < 0))) (by simp) (b := .slice A11 (dg kk.num.natAbs).length c11) (by simp) (.slice B11 (dg kk.den).length d11))
                replace HF := Lib.hid (HF.out.put3 0 rfl hgw (by simp) (.bool (decide (kk.num < 0))) (.slice A11 (dg kk.num.natAbs).length c11) (.slice B11 (dg kk.den).length d11))
                refine hK.out _ _ ⟨cell_below HF.out.bel i2, cell_below HF.out.bel i3, cell_below HF.out.bel i4, cell_below HF.out.bel j2, cell_below HF.out.bel j3, cell_below HF.out.bel j4⟩ (fun hHeld => ?_)
                clear hK K
                refine pure_ (i := 14) (N := (some 16)) (v := ?_) (a' := ?_) #[true, true, true, true, true, true, true, true, true, true, true, true, true, true, true] rfl rfl (by kernel_rfl) (fun _ _ _ h => h) (Or.inl ⟨by rfl, ?_⟩) ?_ ?_
                rotate_left
                · intro w'
                  go_simp
                  with_reducible rfl
                rotate_left
                · simp only [Act.put, List.setIfInBounds_toArray, List.set_cons_zero, List.set_cons_succ]
                  rfl
                exact hcont (g0, A11, c11, B11, d11) _ ⟨HF.out, Q11.out⟩
            rintro ⟨g0, A11, c11, B11, d11⟩ W ⟨hF_, q1⟩
            clear hHeld
            refine norm_ (a' := ?_) ?_ ?_
            rotate_left
            · show putAll _ _ = _
              simp only [putAll, Act.put, List.setIfInBounds_toArray, List.set_cons_zero, List.set_cons_succ]
              rfl
            refine done_ (by kernel_rfl) ?_
            have HF := Lib.hid hF_
            have Q11 := Lib.hid q1
            replace Q10 := Lib.hid (Q10.out.below HF.out.bel)
            clear hF_ q1
            have HFF := Lib.hid (HF'.out.below HF.out.bel)
            have b0 := HF.out.cellN 0 rfl 0 rfl
            have b1 := HF.out.cellN 0 rfl 1 rfl
            have b2 := HF.out.cellN 0 rfl 2 rfl
            go_wp2_with fail
            refine (hKk.out _ HFF.out.bel A11 c11 B11 d11 Q11.out).mono ?_
            rintro e V12 ⟨v_, rfl, h1, h2⟩
            obtain ⟨E12, e12, rfl, h3⟩ := h1.fin
            have Q12 := Lib.hid h3
            replace HFF := Lib.hid (HFF.out.below h2)
            replace Q10 := Lib.hid (Q10.out.below h2)
            clear h1 h2 h3 hKk Q11 b0 b1 b2
            go_wp2_with fail
            refine (hS.out _ E12 e12 Q12.out Q10.out).mono ?_
            rintro e V13 ⟨rfl, h2⟩
            replace HFF := Lib.hid (HFF.out.below h2)
            clear h2 hS Q12 Q10
            go_wp2
            go_ret
            exact ⟨rfl, HFF.out.bel⟩
end Go.Proofs.Ytchdoignomidjaa.F
namespace Go.Proofs.Ytchdoignomidjaa.shapes
open Go.ChangeShapes Go.WideShapes Go.ChangeAt Go.RowKit
open Go.Proofs.Ytchdoignomidjaa.F

set_option maxRecDepth 100000 in
theorem contract (H : Type) (enc : TypeId × Value → H) (W : World) (base : Nat) (args : Array Value) (ds gs : List (DataW H)) (before : List MemPlace)
    (hval : ∀ (j : Nat) t v, Try.f12.params[j]? = some t → args[j]? = some v → Value.okWide Try.prog W .any base t v)
    (hW : DataW.Whole enc Try.prog Try.f12.params.toList Rows.linearShapesSpec.vars false W args.toList ds gs before) (hk : Rows.uptoSmall H (ds ++ gs) = true) :
    Calls Try.prog 12 args W fun e W' => ∃ v, e = .returned v ∧ Rows.linearShapesSpec.post enc Try.prog Try.f12 false true false false W args v W' := by
  have hW' := hW
  obtain ⟨p, q, hA0, hV, rfl, hfz, hnd⟩ := hW
  have hA : DataW.TrodAll enc Try.prog W 0 (fun _ => true) true Try.f12.params.toList args.toList ds p := hA0
  rw [Try.params12] at hA hval
  obtain ⟨v0, vs0, d0, ds0, p0, q0, hargs, rfl, rfl, h0, r0⟩ := trodAll_cons hA
  obtain ⟨v1, vs1, d1, ds1, p1, q1, rfl, rfl, rfl, h1, r1⟩ := trodAll_cons r0
  obtain ⟨v2, vs2, d2, ds2, p2, q2, rfl, rfl, rfl, h2, r2⟩ := trodAll_cons r1
  obtain ⟨rfl, rfl, rfl⟩ := trodAll_nil r2
  obtain rfl : args = #[v0, v1, v2] := by cases args; simp_all
  obtain ⟨rfl, rfl⟩ := trodVars_none hV
  obtain ⟨a0, len0, cap0, rfl⟩ := okWide_slice Try.underlying23 (hval 0 23 v0 rfl rfl)
  have k0 := h0
  have lt0 : ∀ x ∈ p0, x.block < W.heap.size := by obtain ⟨m, hm⟩ := k0; exact DataW.trod_lt m _ _ _ hm
  obtain ⟨m0, g0⟩ := h0
  obtain ⟨f, hC0, ok0⟩ := opens_Form H enc W m0 _ _ g0
  obtain ⟨a1, len1, cap1, rfl⟩ := okWide_slice Try.underlying23 (hval 1 23 v1 rfl rfl)
  have k1 := h1
  have lt1 : ∀ x ∈ p1, x.block < W.heap.size := by obtain ⟨m, hm⟩ := k1; exact DataW.trod_lt m _ _ _ hm
  obtain ⟨m1, g1⟩ := h1
  obtain ⟨g, hC1, ok1⟩ := opens_Form H enc W m1 _ _ g1
  obtain ⟨cs2, rfl, hz2⟩ := okWide_struct Try.underlying31 (hval 2 31 v2 rfl rfl)
  have k2 := h2
  have lt2 : ∀ x ∈ p2, x.block < W.heap.size := by obtain ⟨m, hm⟩ := k2; exact DataW.trod_lt m _ _ _ hm
  obtain ⟨m2, g2⟩ := h2
  obtain ⟨x, hC2, ok2⟩ := opens_Rat H enc W m2 _ _ g2
  have hb : Rows.uptoBulkAll (H := H) [d0, d1, d2] ≤ 1048576 := by
    have h2 := of_decide_eq_true hk
    simpa only [List.append_nil] using h2
  simp only [Rows.uptoBulkAll] at hb
  obtain ⟨A0, c0, e0, hc0, hm0, hr0⟩ := hC0
  obtain ⟨A1, c1, e1, hc1, hm1, hr1⟩ := hC1
  obtain ⟨B2, c2, D2, d2', e2, hq2⟩ := kRat_cells hC2
  simp [Value.cells] at e0 e1
  simp only [Value.cells] at e2
  obtain ⟨rfl, rfl, rfl⟩ := e0
  obtain ⟨rfl, rfl, rfl⟩ := e1
  obtain rfl : cs2 = #[.bool x.1.1, .slice B2 x.1.2.length c2, .slice D2 x.2.length d2'] := by cases cs2; simp_all
  have w0 : (f.map wtm).sum + 1 ≤ Rows.uptoBulk d0 := wt_form ok0
  have w1 : (g.map wtm).sum + 1 ≤ Rows.uptoBulk d1 := wt_form ok1
  have w2 : wt x ≤ Rows.uptoBulk d2 := wt_rat ok2
  have hlaw := law_Shapes x.1.1 B2 c2 x.1.2 D2 d2' x.2 a0 cap0 f a1 cap1 g W (hq2.num (good_rat ok2)) (hq2.den (good_rat ok2)) (good_rat ok2) hr0 hc0 hr1 hc1 (good_form ok0) (good_form ok1) (by show wt x + _ + _ ≤ _; omega)
  refine hlaw.mono fun e W' ⟨he, bel⟩ => ?_
  subst he
  exact ⟨_, rfl, _, _, _, [], _, [], hW', trodAll_mk1 (shut_bool Try.underlying4 _), (trodAll_cons_mk (Below.trod prog_laid (by kernel_rfl) (of_decide_eq_true (by kernel_rfl)) k0 bel lt0) (trodAll_cons_mk (Below.trod prog_laid (by kernel_rfl) (of_decide_eq_true (by kernel_rfl)) k1 bel lt1) (trodAll_cons_mk (Below.trod prog_laid (by kernel_rfl) (of_decide_eq_true (by kernel_rfl)) k2 bel lt2) trodAll_mk0))), rfl, bel.frame _, fun h => by cases h⟩

set_option maxRecDepth 100000 in
theorem lifted (os : Os) (started : os.Started) (H : Type) (enc : TypeId × Value → H) (F : Stop.Interp) :
    ReturnsInHanded {} Try.checked os 12 .any ((Rows.OpenSpec.upto Rows.linearShapesSpec).pre6 enc Try.prog Try.f12 Rows.linearShapesUptoRow.domain false) (((Rows.OpenSpec.upto Rows.linearShapesSpec).at F).post enc Try.prog Try.f12 false true false false) := by
  refine returnsInHanded_of_cond (C := Try.checked) (s := Rows.OpenSpec.upto Rows.linearShapesSpec) (k := Rows.uptoSmall) rfl prog_own started (by kernel_rfl) Try.func12
    (OpenSpec.witness (enc := enc) (C := Try.checked) (s := Rows.OpenSpec.upto Rows.linearShapesSpec) (k := Rows.uptoSmall) rfl false ⟨#[], #[.slice none 0 0, .slice none 0 0, .agg #[.bool false, .slice none 0 0, .slice none 0 0]], []⟩ 8 (by kernel_rfl) (by kernel_rfl) (by kernel_rfl)
      (x := ([.nil, .nil, .agg [.agg [.lit (.bool false), .nil], .nil]], [], [])) (by kernel_rfl) rfl (by kernel_rfl)) ?_
  intro W base args ds gs before hval hW _ hk _
  exact contract H enc W base args ds gs before hval hW hk

theorem over : Rows.LinearShapesUptoSaid :=
  OpenClaim.holds_of_cond 12 Try.f12 rfl rfl rfl rfl rfl rfl rfl ⟨rfl, rfl, rfl, rfl, rfl⟩ rfl rfl rfl rfl rfl (by kernel_rfl) Try.func12 (by kernel_rfl)
    (of_decide_eq_true (by kernel_rfl)) (by unfold Func.isWrapper; first | (rw [if_pos (by decide +kernel)]; kernel_rfl) | (rw [if_neg (by decide +kernel)]; exact ⟨rfl, rfl⟩))
    (fun os started H enc _ F => lifted os started H enc F)
end Go.Proofs.Ytchdoignomidjaa.shapes
namespace Go.Proofs.Ytchdoignomidjaa
theorem linearShapes_holds : Rows.LinearShapesUptoSaid := shapes.over
#print axioms linearShapes_holds
end Go.Proofs.Ytchdoignomidjaa

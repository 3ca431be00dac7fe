/- LinearModule: for every two forms and every rational of bulk at most 1048576 together, Add and Scale tell what makes forms a module; the arguments read as they did. -/
import Derived.Test.YtchdoignomidjaaSev
set_option linter.unusedVariables false
set_option linter.unusedSimpArgs false
namespace Go.Proofs.Ytchdoignomidjaa.F
open Go.RowKit Go.Shelf Go.Proofs.YtchdoignomidjaaW.PrintLast

set_option maxHeartbeats 4000000 in
set_option maxRecDepth 100000 in
theorem law_Module (sg : Bool) (A : Option Addr) (c : Nat) (xs : List Int) (B : Option Addr) (d : Nat) (ys : List Int) (E : Option Addr) (j : Nat) (f : List (Int × RatD)) (G : Option Addr) (l : Nat) (g : List (Int × RatD)) (w : World) (hn : In w A c xs) (hd : In w B d ys) (hgd : Good (wt ((sg, xs), ys)) ((sg, xs), ys)) (hr : kMono.Row w E f) (hc : f.length ≤ j) (kr : kMono.Row w G g) (kc : g.length ≤ l)
    (hf : ∀ m ∈ f, Good (wt m.2) m.2) (hg : ∀ m ∈ g, Good (wt m.2) m.2) (hb : wt ((sg, xs), ys) + (f.map wtm).sum + (g.map wtm).sum ≤ 1048576) :
    Calls Try.prog 7 #[.slice E f.length j, .slice G g.length l, .agg #[.bool sg, .slice A xs.length c, .slice B ys.length d]] w fun e w' => e = .returned (.bool true) ∧ Below w.heap.size w w' := by
  have hlf : f.length * 7 ≤ (f.map wtm).sum := len_le_sum f fun m _ => wtm7 m
  have hlg : g.length * 7 ≤ (g.map wtm).sum := len_le_sum g fun m _ => wtm7 m
  have mn := hgd.mn
  have md := hgd.md
  dsimp only at mn md
  have hmu := mu_rq hgd
  change mu (rv sg xs ys) ≤ _ at hmu
  have hmf := mf_fval hf
  have hmg := mf_fval hg
  have hpr : (f.length + g.length) * wt ((sg, xs), ys) ≤ 39268272421 := prod_le2 (by omega)
  rw [Nat.add_mul] at hpr
  obtain ⟨q, hq⟩ : ∃ q, q = rv sg xs ys := ⟨_, rfl⟩
  rw [← hq] at hmu
  have hvf : (fval f).length = f.length := fval_length f
  have hvg : (fval g).length = g.length := fval_length g
  have p1 : f.length * mu q ≤ f.length * wt ((sg, xs), ys) := Nat.mul_le_mul_left _ hmu
  have p2 : g.length * mu q ≤ g.length * wt ((sg, xs), ys) := Nat.mul_le_mul_left _ hmu
  generalize wt ((sg, xs), ys) = V at *
  have R : FRaw w E j f := FRaw.of hr hc hf (by omega)
  have T : FRaw w G l g := FRaw.of kr kc hg (by omega)
  have HF := Lib.hid ((Fr.refl w).box [.bool sg, .slice A xs.length c, .slice B ys.length d] 31)
  -- the measures of all forms
  have sl := nform_len (fval f ++ fval g)
  rw [List.length_append, hvf, hvg] at sl
  have sm := mf_nform (fval f ++ fval g)
  rw [mf_append] at sm
  have fl := nform_len (smul q (fval f))
  rw [smul_length, hvf] at fl
  have fm := Nat.le_trans (mf_nform (smul q (fval f))) (mf_smul q (fval f))
  rw [hvf] at fm
  have gl := nform_len (smul q (fval g))
  rw [smul_length, hvg] at gl
  have gm := Nat.le_trans (mf_nform (smul q (fval g))) (mf_smul q (fval g))
  rw [hvg] at gm
  have kl := nform_len (smul q (nform (fval f ++ fval g)))
  rw [smul_length] at kl
  have yl := nform_len (smul (q + 1) (fval f))
  rw [smul_length, hvf] at yl
  have nl := nform_len (fval f)
  rw [hvf] at nl
  have m1 : mu (1 : Rat) ≤ 1 := mu_int (n := 1) (by decide)
  have my := mu_add q 1
  have ly := mu_len (q + 1)
  have lo := mu_len (1 : Rat)
  have wf := wtm_can (nform (smul q (fval f)))
  have wg := wtm_can (nform (smul q (fval g)))
  have ws := wtm_can (nform (fval f ++ fval g))
  have hA1 := Lib.hid (fun (W : World) (hb : Below w.heap.size w W) => linear_Add E j f G l g W (R.below hb) (T.below hb) (by omega))
  have hA2 := Lib.hid (fun (W : World) (hb : Below w.heap.size w W) => linear_Add G l g E j f W (T.below hb) (R.below hb) (by omega))
  rw [mod_comm] at hA2
  have hN1 := Lib.hid (fun (W : World) (hb : Below w.heap.size w W) => linear_Norm f.length E j f W (Nat.le_refl _) (R.below hb))
  have hS1 := Lib.hid (show ∀ (W : World) (hb : Below w.heap.size w W) (A1 : Option Addr) (c1 : Nat), FIn W A1 c1 (nform (fval f ++ fval g)) → Calls Try.prog 28 #[.slice A1 (nform (fval f ++ fval g)).length c1, .slice G g.length l] W (ToldFm W (nform (fval f))) from fun W hb A1 c1 k => by
    have h := linear_Sub A1 c1 _ G l g W (k.raw (by omega)) (T.below hb) (by omega)
    rw [List.length_map, fval_can, mod_sub] at h
    exact h)
  have hK1 := Lib.hid (show ∀ (W : World) (hb : Below w.heap.size w W) (A1 : Option Addr) (c1 : Nat), FIn W A1 c1 (nform (fval f ++ fval g)) → Calls Try.prog 25 #[.agg #[.bool sg, .slice A xs.length c, .slice B ys.length d], .slice A1 (nform (fval f ++ fval g)).length c1] W (ToldFm W (nform (smul q (nform (fval f ++ fval g))))) from fun W hb A1 c1 k => by
    have h := linear_Scale sg A c xs B d ys A1 c1 _ W (hn.below hb) (by omega) (hd.below hb) (by omega) (k.raw (by omega)) (fun v => by
      rw [fval_can, ← hq]
      exact mu_ql (by
        have h1 := mu_mul q (co (nform (fval f ++ fval g)) v)
        have h2 := mu_co (nform (fval f ++ fval g)) v
        omega))
    rw [List.length_map, fval_can, ← hq] at h
    exact h)
  have hK2 := Lib.hid (fun (W : World) (hb : Below w.heap.size w W) => linear_Scale sg A c xs B d ys E j f W (hn.below hb) (by omega) (hd.below hb) (by omega) (R.below hb) fun v => by
    rw [← hq]
    exact mu_ql (by
      have h1 := mu_mul q (co (fval f) v)
      have h2 := mu_co (fval f) v
      omega))
  have hK3 := Lib.hid (fun (W : World) (hb : Below w.heap.size w W) => linear_Scale sg A c xs B d ys G l g W (hn.below hb) (by omega) (hd.below hb) (by omega) (T.below hb) fun v => by
    rw [← hq]
    exact mu_ql (by
      have h1 := mu_mul q (co (fval g) v)
      have h2 := mu_co (fval g) v
      omega))
  rw [← hq] at hK2 hK3
  have hA3 := Lib.hid (show ∀ (W : World) (A1 : Option Addr) (c1 : Nat) (A2 : Option Addr) (c2 : Nat), FIn W A1 c1 (nform (smul q (fval f))) → FIn W A2 c2 (nform (smul q (fval g))) → Calls Try.prog 27 #[.slice A1 (nform (smul q (fval f))).length c1, .slice A2 (nform (smul q (fval g))).length c2] W (ToldFm W (nform (smul q (nform (fval f ++ fval g))))) from fun W A1 c1 A2 c2 k1 k2 => by
    have h := linear_Add A1 c1 _ A2 c2 _ W (k1.raw (by omega)) (k2.raw (by omega)) (by omega)
    rw [List.length_map, List.length_map, fval_can, fval_can, mod_scale] at h
    exact h)
  have hA4 := Lib.hid (show ∀ (W : World) (hb : Below w.heap.size w W) (A1 : Option Addr) (c1 : Nat), FIn W A1 c1 (nform (smul q (fval f))) → Calls Try.prog 27 #[.slice A1 (nform (smul q (fval f))).length c1, .slice E f.length j] W (ToldFm W (nform (smul (q + 1) (fval f)))) from fun W hb A1 c1 k1 => by
    have h := linear_Add A1 c1 _ E j f W (k1.raw (by omega)) (R.below hb) (by omega)
    rw [List.length_map, fval_can, mod_one] at h
    exact h)
  have hW1 := Lib.hid (fun (W : World) => r3_Whole 1 W (by omega) (by omega))
  rw [show (((1 : Int)) : Rat) = 1 from rfl] at hW1
  have hD1 := Lib.hid (show ∀ (W : World) (hb : Below w.heap.size w W) (A1 : Option Addr) (c1 : Nat) (B1 : Option Addr) (d1 : Nat), InQ W A1 c1 B1 d1 1 → Calls Try.prog 30 #[.agg #[.bool sg, .slice A xs.length c, .slice B ys.length d], .agg #[.bool (decide ((1 : Rat).num < 0)), .slice A1 (dg (1 : Rat).num.natAbs).length c1, .slice B1 (dg (1 : Rat).den).length d1]] W (ToldQ W (q + 1)) from fun W hb A1 c1 B1 d1 k => by
    have h := r3_Add sg A c xs B d ys (decide ((1 : Rat).num < 0)) A1 c1 _ B1 d1 _ W (hn.below hb) (by omega) (hd.below hb) (by omega) k.num (by omega) k.den (by omega)
    rw [rv_can, ← hq] at h
    exact h)
  have hK4 := Lib.hid (show ∀ (W : World) (hb : Below w.heap.size w W) (A1 : Option Addr) (c1 : Nat) (B1 : Option Addr) (d1 : Nat), InQ W A1 c1 B1 d1 (q + 1) → Calls Try.prog 25 #[.agg #[.bool (decide ((q + 1).num < 0)), .slice A1 (dg (q + 1).num.natAbs).length c1, .slice B1 (dg (q + 1).den).length d1], .slice E f.length j] W (ToldFm W (nform (smul (q + 1) (fval f)))) from fun W hb A1 c1 B1 d1 k => by
    have h := linear_Scale (decide ((q + 1).num < 0)) A1 c1 _ B1 d1 _ E j f W k.num (by omega) k.den (by omega) (R.below hb) (fun v => by
      rw [rv_can]
      exact mu_ql (by
        have h1 := mu_mul (q + 1) (co (fval f) v)
        have h2 := mu_co (fval f) v
        omega))
    rw [rv_can] at h
    exact h)
  have hK5 := hK2
  have sl' : (nform (fval f ++ fval g)).length ≤ 1048576 := by omega
  have nl' : (nform (fval f)).length ≤ 1048576 := by omega
  have kl' : (nform (smul q (nform (fval f ++ fval g)))).length ≤ 1048576 := by omega
  have yl' : (nform (smul (q + 1) (fval f))).length ≤ 1048576 := by omega
  clear hn hd hgd hr hc kr kc hf hg hb hlf hlg mn md hmu hmf hmg hpr hvf hvg p1 p2 R T sl sm fl fm gl gm kl yl nl m1 my ly lo wf wg ws hq
  generalize nform (smul q (nform (fval f ++ fval g))) = k at *
  generalize nform (smul (q + 1) (fval f)) = y at *
  generalize nform (smul q (fval f)) = u at *
  generalize nform (smul q (fval g)) = v at *
  generalize nform (fval f ++ fval g) = s at *
  generalize nform (fval f) = n at *
  generalize q + 1 = r at *
  obtain ⟨p, hp⟩ : ∃ p, p = (1 : Rat) := ⟨_, rfl⟩
  rw [← hp] at hW1 hD1
  clear hp
  have HC := Lib.hid (fun (W : World) => law_awake W)
  go_enter Try.func7, Try.ntmps7
  go_wp2_with fail
  refine (hA1.out _ HF.out.bel).mono ?_
  rintro e W1_ ⟨v_, rfl, h1, h2⟩
  obtain ⟨E1, e1, rfl, h3⟩ := h1.fin
  have Q1 := Lib.hid h3
  replace HF := Lib.hid (HF.out.below h2)
  clear h1 h2 h3 hA1
  go_wp2_with fail
  refine (hA2.out _ HF.out.bel).mono ?_
  rintro e W2 ⟨v_, rfl, h1, h2⟩
  obtain ⟨E2, e2, rfl, h3⟩ := h1.fin
  have Q2 := Lib.hid h3
  replace Q1 := Lib.hid (Q1.out.below h2)
  replace HF := Lib.hid (HF.out.below h2)
  clear h1 h2 h3 hA2
  have hS := Lib.hid (same_FormB E1 e1 E2 e2 s s W2 Q1.out Q2.out (by omega) (by omega))
  rw [decide_eq_true (rfl : s = s)] at hS
  go_wp2_with fail
  refine hS.out.mono ?_
  rintro e W3 ⟨rfl, h2⟩
  replace Q1 := Lib.hid (Q1.out.below h2)
  replace HF := Lib.hid (HF.out.below h2)
  clear h2 hS Q2
  go_wp2_with fail
  refine (hS1.out _ HF.out.bel E1 e1 Q1.out).mono ?_
  rintro e W4 ⟨v_, rfl, h1, h2⟩
  obtain ⟨E4, e4, rfl, h3⟩ := h1.fin
  have Q4 := Lib.hid h3
  replace Q1 := Lib.hid (Q1.out.below h2)
  replace HF := Lib.hid (HF.out.below h2)
  clear h1 h2 h3 hS1
  go_wp2_with fail
  refine (hN1.out _ HF.out.bel).mono ?_
  rintro e W5 ⟨v_, rfl, h1, h2⟩
  obtain ⟨E5, e5, rfl, h3⟩ := h1.fin
  have Q5 := Lib.hid h3
  replace Q4 := Lib.hid (Q4.out.below h2)
  replace Q1 := Lib.hid (Q1.out.below h2)
  replace HF := Lib.hid (HF.out.below h2)
  clear h1 h2 h3 hN1
  have hS := Lib.hid (same_FormB E4 e4 E5 e5 n n W5 Q4.out Q5.out (by omega) (by omega))
  rw [decide_eq_true (rfl : n = n)] at hS
  go_wp2_with fail
  refine hS.out.mono ?_
  rintro e W ⟨rfl, h2⟩
  replace Q1 := Lib.hid (Q1.out.below h2)
  replace HF := Lib.hid (HF.out.below h2)
  clear h2 hS Q4 Q5
  go_wp2_with fail
  replace Q1 := Lib.hid (Q1.out.below (Below.drew (Below.refl _ _)))
  have HF_ := Lib.hid HF.out.drew
  clear HF
  have HF := HF_
  clear HF_
  refine start_ (n := 12) (S := fun w' => w'.cell? ⟨w.heap.size, 0, none⟩ = some (.bool sg) ∧ w'.cell? ⟨w.heap.size, 1, none⟩ = some (.slice A xs.length c) ∧ w'.cell? ⟨w.heap.size, 2, none⟩ = some (.slice B ys.length d)) (ds := []) #[false, false, false, false, false, false, false, false, false, false, false, false] (by kernel_rfl) rfl rfl ⟨HF.out.cellN 0 rfl 0 rfl, HF.out.cellN 0 rfl 1 rfl, HF.out.cellN 0 rfl 2 rfl⟩ (fun hHeld => ?_)
  generalize World.drew _ = W at *
  refine pure_ (i := 1) (N := (some 28)) (v := ?_) (a' := ?_) #[false, true, false, false, false, false, false, false, false, false, false, false] rfl rfl (by kernel_rfl) (fun _ _ _ h => h) (Or.inl ⟨by rfl, ?_⟩) ?_ ?_
  rotate_left
  · intro w'
    go_simp
    with_reducible rfl
  rotate_left
  · simp only [Act.put, List.setIfInBounds_toArray, List.set_cons_zero, List.set_cons_succ]
    rfl
  refine pure_ (i := 4) (N := (some 31)) (v := ?_) (a' := ?_) #[false, true, false, false, true, false, false, false, false, false, false, false] rfl rfl (by kernel_rfl) (fun _ _ _ h => h) (Or.inl ⟨by rfl, ?_⟩) ?_ ?_
  rotate_left
  · intro w'
    go_simp
    with_reducible rfl
  rotate_left
  · simp only [Act.put, List.setIfInBounds_toArray, List.set_cons_zero, List.set_cons_succ]
    rfl
  refine pure_ (i := 7) (N := (some 34)) (v := ?_) (a' := ?_) #[false, true, false, false, true, false, false, true, false, false, false, false] rfl rfl (by kernel_rfl) (fun _ _ _ h => h) (Or.inl ⟨by rfl, ?_⟩) ?_ ?_
  rotate_left
  · intro w'
    go_simp
    with_reducible rfl
  rotate_left
  · simp only [Act.put, List.setIfInBounds_toArray, List.set_cons_zero, List.set_cons_succ]
    rfl
  refine take_ (i := 0) (N := (some 27)) (v := ?_) (a' := ?_) #[true, true, false, false, true, false, false, true, false, false, false, false] rfl rfl (by kernel_rfl) (fun _ _ _ h => h) (Or.inl ⟨by rfl, ?_⟩) hHeld ?_ ?_
  rotate_left
  · rintro w' ⟨s0, s1, s2⟩
    go_simp
    with_reducible rfl
  rotate_left
  · simp only [Act.put, List.setIfInBounds_toArray, List.set_cons_zero, List.set_cons_succ]
    rfl
  refine take_ (i := 3) (N := (some 30)) (v := ?_) (a' := ?_) #[true, true, false, true, true, false, false, true, false, false, false, false] rfl rfl (by kernel_rfl) (fun _ _ _ h => h) (Or.inl ⟨by rfl, ?_⟩) hHeld ?_ ?_
  rotate_left
  · rintro w' ⟨s0, s1, s2⟩
    go_simp
    with_reducible rfl
  rotate_left
  · simp only [Act.put, List.setIfInBounds_toArray, List.set_cons_zero, List.set_cons_succ]
    rfl
  refine take_ (i := 6) (N := (some 33)) (v := ?_) (a' := ?_) #[true, true, false, true, true, false, true, true, false, false, false, false] rfl rfl (by kernel_rfl) (fun _ _ _ h => h) (Or.inl ⟨by rfl, ?_⟩) hHeld ?_ ?_
  rotate_left
  · rintro w' ⟨s0, s1, s2⟩
    go_simp
    with_reducible rfl
  rotate_left
  · simp only [Act.put, List.setIfInBounds_toArray, List.set_cons_zero, List.set_cons_succ]
    rfl
  refine one_ (i := 2) (N := (some 29)) #[true, true, true, true, true, false, true, true, false, false, false, false] rfl rfl (by kernel_rfl) (by decide) (fun K hK => ?_)
  refine goes_ Try.func25 (by kernel_rfl) rfl #[.agg #[.bool sg, .slice A xs.length c, .slice B ys.length d], .slice E1 s.length e1] (by rfl) rfl rfl (by (try simp only [List.map_toArray, List.map_cons, List.map_nil]); first | done | rfl) ?_
  refine (hK1.out W HF.out.bel E1 e1 Q1.out).mono ?_
  rintro e W1 ⟨v_, rfl, h1, h2⟩
  refine ⟨_, rfl, ?_⟩
  obtain ⟨E6, e6, rfl, h3⟩ := h1.fin
  have Q6 := Lib.hid h3
  replace HF := Lib.hid (HF.out.below h2)
  clear h1 h2 h3 Q1 hK1
  refine hK.out _ _ ⟨HF.out.cellN 0 rfl 0 rfl, HF.out.cellN 0 rfl 1 rfl, HF.out.cellN 0 rfl 2 rfl⟩ (fun hHeld => ?_)
  clear hK K
  refine norm_ (a' := ?_) ?_ ?_
  rotate_left
  · show Act.put _ (some 29) _ = _
    simp only [Act.put, List.setIfInBounds_toArray, List.set_cons_zero, List.set_cons_succ]
    rfl
  refine one_ (i := 5) (N := (some 32)) #[true, true, true, true, true, true, true, true, false, false, false, false] rfl rfl (by kernel_rfl) (by decide) (fun K hK => ?_)
  refine goes_ Try.func25 (by kernel_rfl) rfl #[.agg #[.bool sg, .slice A xs.length c, .slice B ys.length d], .slice E f.length j] (by rfl) rfl rfl (by (try simp only [List.map_toArray, List.map_cons, List.map_nil]); first | done | rfl) ?_
  refine (hK2.out W1 HF.out.bel).mono ?_
  rintro e W2 ⟨v_, rfl, h1, h2⟩
  refine ⟨_, rfl, ?_⟩
  obtain ⟨E7, e7, rfl, h3⟩ := h1.fin
  have Q7 := Lib.hid h3
  replace Q6 := Lib.hid (Q6.out.below h2)
  replace HF := Lib.hid (HF.out.below h2)
  clear h1 h2 h3 hK2
  refine hK.out _ _ ⟨HF.out.cellN 0 rfl 0 rfl, HF.out.cellN 0 rfl 1 rfl, HF.out.cellN 0 rfl 2 rfl⟩ (fun hHeld => ?_)
  clear hK K
  refine norm_ (a' := ?_) ?_ ?_
  rotate_left
  · show Act.put _ (some 32) _ = _
    simp only [Act.put, List.setIfInBounds_toArray, List.set_cons_zero, List.set_cons_succ]
    rfl
  refine one_ (i := 8) (N := (some 35)) #[true, true, true, true, true, true, true, true, true, false, false, false] rfl rfl (by kernel_rfl) (by decide) (fun K hK => ?_)
  refine goes_ Try.func25 (by kernel_rfl) rfl #[.agg #[.bool sg, .slice A xs.length c, .slice B ys.length d], .slice G g.length l] (by rfl) rfl rfl (by (try simp only [List.map_toArray, List.map_cons, List.map_nil]); first | done | rfl) ?_
  refine (hK3.out W2 HF.out.bel).mono ?_
  rintro e W3 ⟨v_, rfl, h1, h2⟩
  refine ⟨_, rfl, ?_⟩
  obtain ⟨E8, e8, rfl, h3⟩ := h1.fin
  have Q8 := Lib.hid h3
  replace Q6 := Lib.hid (Q6.out.below h2)
  replace Q7 := Lib.hid (Q7.out.below h2)
  replace HF := Lib.hid (HF.out.below h2)
  clear h1 h2 h3 hK3
  refine hK.out _ _ ⟨HF.out.cellN 0 rfl 0 rfl, HF.out.cellN 0 rfl 1 rfl, HF.out.cellN 0 rfl 2 rfl⟩ (fun hHeld => ?_)
  clear hK K
  refine norm_ (a' := ?_) ?_ ?_
  rotate_left
  · show Act.put _ (some 35) _ = _
    simp only [Act.put, List.setIfInBounds_toArray, List.set_cons_zero, List.set_cons_succ]
    rfl
  refine one_ (i := 9) (N := (some 36)) #[true, true, true, true, true, true, true, true, true, true, false, false] rfl rfl (by kernel_rfl) (by decide) (fun K hK => ?_)
  refine goes_ Try.func27 (by kernel_rfl) rfl #[.slice E7 u.length e7, .slice E8 v.length e8] (by rfl) rfl rfl (by (try simp only [List.map_toArray, List.map_cons, List.map_nil]); first | done | rfl) ?_
  refine (hA3.out W3 E7 e7 E8 e8 Q7.out Q8.out).mono ?_
  rintro e W4 ⟨v_, rfl, h1, h2⟩
  refine ⟨_, rfl, ?_⟩
  obtain ⟨E9, e9, rfl, h3⟩ := h1.fin
  have Q9 := Lib.hid h3
  replace Q6 := Lib.hid (Q6.out.below h2)
  replace HF := Lib.hid (HF.out.below h2)
  clear h1 h2 h3 hA3 Q7 Q8
  refine hK.out _ _ ⟨HF.out.cellN 0 rfl 0 rfl, HF.out.cellN 0 rfl 1 rfl, HF.out.cellN 0 rfl 2 rfl⟩ (fun hHeld => ?_)
  clear hK K
  refine norm_ (a' := ?_) ?_ ?_
  rotate_left
  · show Act.put _ (some 36) _ = _
    simp only [Act.put, List.setIfInBounds_toArray, List.set_cons_zero, List.set_cons_succ]
    rfl
  refine one_ (i := 10) (N := (some 37)) #[true, true, true, true, true, true, true, true, true, true, true, false] rfl rfl (by kernel_rfl) (by decide) (fun K hK => ?_)
  refine goes_ Try.func24 (by kernel_rfl) rfl #[.slice E6 k.length e6, .slice E9 k.length e9] (by rfl) rfl rfl (by (try simp only [List.map_toArray, List.map_cons, List.map_nil]); first | done | rfl) ?_
  refine (same_FormB E6 e6 E9 e9 k k W4 Q6.out Q9.out (by omega) (by omega)).mono ?_
  rintro e W5 ⟨rfl, h2⟩
  refine ⟨_, rfl, ?_⟩
  replace HF := Lib.hid (HF.out.below h2)
  clear h2 Q6 Q9
  rw [decide_eq_true (rfl : k = k)]
  refine hK.out _ _ ⟨HF.out.cellN 0 rfl 0 rfl, HF.out.cellN 0 rfl 1 rfl, HF.out.cellN 0 rfl 2 rfl⟩ (fun hHeld => ?_)
  clear hK K
  refine norm_ (a' := ?_) ?_ ?_
  rotate_left
  · show Act.put _ (some 37) _ = _
    simp only [Act.put, List.setIfInBounds_toArray, List.set_cons_zero, List.set_cons_succ]
    rfl
  refine pure_ (i := 11) (N := (some 38)) (v := ?_) (a' := ?_) #[true, true, true, true, true, true, true, true, true, true, true, true] rfl rfl (by kernel_rfl) (fun _ _ _ h => h) (Or.inl ⟨by rfl, ?_⟩) ?_ ?_
  rotate_left
  · intro w'
    go_simp
    with_reducible rfl
  rotate_left
  · simp only [Act.put, List.setIfInBounds_toArray, List.set_cons_zero, List.set_cons_succ]
    rfl
  refine done_ (by kernel_rfl) ?_
  go_wp2_with fail
  have HF_ := Lib.hid HF.out.drew
  clear HF
  have HF := HF_
  clear HF_
  refine start_ (n := 5) (S := fun w' => w'.cell? ⟨w.heap.size, 0, none⟩ = some (.bool sg) ∧ w'.cell? ⟨w.heap.size, 1, none⟩ = some (.slice A xs.length c) ∧ w'.cell? ⟨w.heap.size, 2, none⟩ = some (.slice B ys.length d)) (ds := []) #[false, false, false, false, false] (by kernel_rfl) rfl rfl ⟨HF.out.cellN 0 rfl 0 rfl, HF.out.cellN 0 rfl 1 rfl, HF.out.cellN 0 rfl 2 rfl⟩ (fun hHeld => ?_)
  generalize World.drew _ = W at *
  refine take_ (i := 0) (N := (some 39)) (v := ?_) (a' := ?_) #[true, false, false, false, false] rfl rfl (by kernel_rfl) (fun _ _ _ h => h) (Or.inl ⟨by rfl, ?_⟩) hHeld ?_ ?_
  rotate_left
  · rintro w' ⟨s0, s1, s2⟩
    go_simp
    with_reducible rfl
  rotate_left
  · simp only [Act.put, List.setIfInBounds_toArray, List.set_cons_zero, List.set_cons_succ]
    rfl
  refine join_ (σ := Nat × (Option Addr × Nat × Option Addr × Nat) × Option Addr × Nat × Option Addr × Nat) 0 #[true, true, true, true, true] (fun ⟨g0, ⟨A3, c3, B3, d3⟩, A4, c4, B4, d4⟩ => [(40, .agg #[.bool (decide (p.num < 0)), .slice A3 (dg p.num.natAbs).length c3, .slice B3 (dg p.den).length d3]), (41, .agg #[.bool (decide (r.num < 0)), .slice A4 (dg r.num.natAbs).length c4, .slice B4 (dg r.den).length d4]), (8, .pointer (some ⟨g0, 0, none⟩))]) (fun ⟨g0, ⟨A3, c3, B3, d3⟩, A4, c4, B4, d4⟩ W' => w.heap.size + 1 ≤ g0 ∧ Fr w W' [(w.heap.size, [.bool sg, .slice A xs.length c, .slice B ys.length d]), (g0, [.bool (decide (r.num < 0)), .slice A4 (dg r.num.natAbs).length c4, .slice B4 (dg r.den).length d4])] ∧ InQ W' A4 c4 B4 d4 r) ?hc ?hm
  case hm =>
    intro hcont
    refine two_ (i := 1) (j := 3) (Ni := (some 40)) (Nj := (some 8)) #[true, true, false, false, false] #[true, false, false, true, false] rfl rfl rfl rfl (by kernel_rfl) (by decide) (by decide) (fun K hK => ?_) (fun K hK => ?_)
    · refine goes_ Try.func31 (by kernel_rfl) rfl #[.int .i64 1] (by rfl) rfl rfl (by (try simp only [List.map_toArray, List.map_cons, List.map_nil]); first | done | rfl) ?_
      refine (hW1.out W).mono ?_
      rintro e W1 ⟨A3, c3, B3, d3, rfl, q1, q2, q3⟩
      refine ⟨_, rfl, ?_⟩
      replace HF := Lib.hid (HF.out.below q3)
      have Q3 := Lib.hid (InQ.mk q1 q2)
      clear q1 q2 q3
      refine hK.out _ _ ⟨HF.out.cellN 0 rfl 0 rfl, HF.out.cellN 0 rfl 1 rfl, HF.out.cellN 0 rfl 2 rfl⟩ (fun hHeld => ?_)
      clear hK K
      refine norm_ (a' := ?_) ?_ ?_
      rotate_left
      · show Act.put _ (some 40) _ = _
        simp only [Act.put, List.setIfInBounds_toArray, List.set_cons_zero, List.set_cons_succ]
        rfl
      refine two_ (i := 2) (j := 3) (Ni := (some 41)) (Nj := (some 8)) #[true, true, true, false, false] #[true, true, false, true, false] rfl rfl rfl rfl (by kernel_rfl) (by decide) (by decide) (fun K hK => ?_) (fun K hK => ?_)
      · refine goes_ Try.func30 (by kernel_rfl) rfl #[.agg #[.bool sg, .slice A xs.length c, .slice B ys.length d], .agg #[.bool (decide (p.num < 0)), .slice A3 (dg p.num.natAbs).length c3, .slice B3 (dg p.den).length d3]] (by rfl) rfl rfl (by (try simp only [List.map_toArray, List.map_cons, List.map_nil]); first | done | rfl) ?_
        refine (hD1.out W1 HF.out.bel A3 c3 B3 d3 Q3.out).mono ?_
        rintro e W2 ⟨A4, c4, B4, d4, rfl, q1, q2, q3⟩
        refine ⟨_, rfl, ?_⟩
        replace HF := Lib.hid (HF.out.below q3)
        have Q4 := Lib.hid (InQ.mk q1 q2)
        clear q1 q2 q3 Q3
        refine hK.out _ _ ⟨HF.out.cellN 0 rfl 0 rfl, HF.out.cellN 0 rfl 1 rfl, HF.out.cellN 0 rfl 2 rfl⟩ (fun hHeld => ?_)
        clear hK K
        refine norm_ (a' := ?_) ?_ ?_
        rotate_left
        · show Act.put _ (some 41) _ = _
          simp only [Act.put, List.setIfInBounds_toArray, List.set_cons_zero, List.set_cons_succ]
          rfl
        refine one_ (i := 3) (N := (some 8)) #[true, true, true, true, false] rfl rfl (by kernel_rfl) (by decide) (fun K hK => ?_)
        refine value_ (v := ?_) (w1 := ?_) (by rfl) rfl ?_ ?_
        rotate_left
        rotate_left
        · go_simp
          first | rfl | (refine ⟨?_, ?_⟩ <;> rfl)
        have hgw : w.heap.size + 1 ≤ W2.heap.size := by have := HF.out.ltN 0 rfl; omega
        try replace Q3 := Lib.hid (Q3.out.below ((Below.refl _ W2).alloc (Nat.le_refl _) (.cells #[.bool false, .slice none 0 0, .slice none 0 0] 31)))
        try replace Q4 := Lib.hid (Q4.out.below ((Below.refl _ W2).alloc (Nat.le_refl _) (.cells #[.bool false, .slice none 0 0, .slice none 0 0] 31)))
        replace HF := Lib.hid (HF.out.boxEnd [.bool false, .slice none 0 0, .slice none 0 0] 31)
        refine hK.out _ _ ⟨HF.out.cellN 0 rfl 0 rfl, HF.out.cellN 0 rfl 1 rfl, HF.out.cellN 0 rfl 2 rfl⟩ (fun hHeld => ?_)
        clear hK K
        refine norm_ (a' := ?_) ?_ ?_
        rotate_left
        · show Act.put _ (some 8) _ = _
          simp only [Act.put, List.setIfInBounds_toArray, List.set_cons_zero, List.set_cons_succ]
          rfl
        obtain ⟨g0, hg0⟩ : ∃ g0, g0 = W2.heap.size := ⟨_, rfl⟩
        obtain ⟨W3, hV⟩ : ∃ X, X = W2.alloc (.cells #[.bool false, .slice none 0 0, .slice none 0 0] 31) := ⟨_, rfl⟩
        rw [← hg0] at HF hgw ⊢
        rw [← hV] at HF ⊢
        try rw [← hV] at Q3
        try rw [← hV] at Q4
        clear hg0 hV
        refine one_ (i := 4) (N := none) #[true, true, true, true, true] rfl rfl (by kernel_rfl) (by decide) (fun K hK => ?_)
        have hf0 := HF.out.frozenN 1 rfl 0
        have hf1 := HF.out.frozenN 1 rfl 1
        have hf2 := HF.out.frozenN 1 rfl 2
        have hd0 := HF.out.cellN 1 rfl 0 rfl
        have hd1 := HF.out.cellN 1 rfl 1 rfl
        have hd2 := HF.out.cellN 1 rfl 2 rfl
        refine skip_ (w1 := ?_) (by rfl) rfl ?_ ?_
        rotate_left
        · go_simp
          rfl
        replace Q4 := Lib.hid (Q4.out.put3 (HF.out.ownN 1 rfl) (by simp) (a := .bool (decide (r.num < 0))) (by simp) (b := .slice A4 (dg r.num.natAbs).length c4) (by simp) (.slice B4 (dg r.den).length d4))
        replace HF := Lib.hid (HF.out.put3 1 rfl (by omega) (by simp; omega) (.bool (decide (r.num < 0))) (.slice A4 (dg r.num.natAbs).length c4) (.slice B4 (dg r.den).length d4))
        refine hK.out _ _ ⟨HF.out.cellN 0 rfl 0 rfl, HF.out.cellN 0 rfl 1 rfl, HF.out.cellN 0 rfl 2 rfl⟩ (fun hHeld => ?_)
        clear hK K
        exact hcont (g0, (A3, c3, B3, d3), A4, c4, B4, d4) _ ⟨hgw, HF.out, Q4.out⟩
      · refine value_ (v := ?_) (w1 := ?_) (by rfl) rfl ?_ ?_
        rotate_left
        rotate_left
        · go_simp
          first | rfl | (refine ⟨?_, ?_⟩ <;> rfl)
        have hgw : w.heap.size + 1 ≤ W1.heap.size := by have := HF.out.ltN 0 rfl; omega
        try replace Q3 := Lib.hid (Q3.out.below ((Below.refl _ W1).alloc (Nat.le_refl _) (.cells #[.bool false, .slice none 0 0, .slice none 0 0] 31)))
        try replace Q4 := Lib.hid (Q4.out.below ((Below.refl _ W1).alloc (Nat.le_refl _) (.cells #[.bool false, .slice none 0 0, .slice none 0 0] 31)))
        replace HF := Lib.hid (HF.out.boxEnd [.bool false, .slice none 0 0, .slice none 0 0] 31)
        refine hK.out _ _ ⟨HF.out.cellN 0 rfl 0 rfl, HF.out.cellN 0 rfl 1 rfl, HF.out.cellN 0 rfl 2 rfl⟩ (fun hHeld => ?_)
        clear hK K
        refine norm_ (a' := ?_) ?_ ?_
        rotate_left
        · show Act.put _ (some 8) _ = _
          simp only [Act.put, List.setIfInBounds_toArray, List.set_cons_zero, List.set_cons_succ]
          rfl
        obtain ⟨g0, hg0⟩ : ∃ g0, g0 = W1.heap.size := ⟨_, rfl⟩
        obtain ⟨W4, hV⟩ : ∃ X, X = W1.alloc (.cells #[.bool false, .slice none 0 0, .slice none 0 0] 31) := ⟨_, rfl⟩
        rw [← hg0] at HF hgw ⊢
        rw [← hV] at HF ⊢
        try rw [← hV] at Q3
        try rw [← hV] at Q4
        clear hg0 hV
        refine one_ (i := 2) (N := (some 41)) #[true, true, true, true, false] rfl rfl (by kernel_rfl) (by decide) (fun K hK => ?_)
        refine goes_ Try.func30 (by kernel_rfl) rfl #[.agg #[.bool sg, .slice A xs.length c, .slice B ys.length d], .agg #[.bool (decide (p.num < 0)), .slice A3 (dg p.num.natAbs).length c3, .slice B3 (dg p.den).length d3]] (by rfl) rfl rfl (by (try simp only [List.map_toArray, List.map_cons, List.map_nil]); first | done | rfl) ?_
        refine (hD1.out W4 HF.out.bel A3 c3 B3 d3 Q3.out).mono ?_
        rintro e W5 ⟨A4, c4, B4, d4, rfl, q1, q2, q3⟩
        refine ⟨_, rfl, ?_⟩
        replace HF := Lib.hid (HF.out.below q3)
        have Q4 := Lib.hid (InQ.mk q1 q2)
        clear q1 q2 q3 Q3
        refine hK.out _ _ ⟨HF.out.cellN 0 rfl 0 rfl, HF.out.cellN 0 rfl 1 rfl, HF.out.cellN 0 rfl 2 rfl⟩ (fun hHeld => ?_)
        clear hK K
        refine norm_ (a' := ?_) ?_ ?_
        rotate_left
        · show Act.put _ (some 41) _ = _
          simp only [Act.put, List.setIfInBounds_toArray, List.set_cons_zero, List.set_cons_succ]
          rfl
        refine one_ (i := 4) (N := none) #[true, true, true, true, true] rfl rfl (by kernel_rfl) (by decide) (fun K hK => ?_)
        have hf0 := HF.out.frozenN 1 rfl 0
        have hf1 := HF.out.frozenN 1 rfl 1
        have hf2 := HF.out.frozenN 1 rfl 2
        have hd0 := HF.out.cellN 1 rfl 0 rfl
        have hd1 := HF.out.cellN 1 rfl 1 rfl
        have hd2 := HF.out.cellN 1 rfl 2 rfl
        refine skip_ (w1 := ?_) (by rfl) rfl ?_ ?_
        rotate_left
        · go_simp
          rfl
        replace Q4 := Lib.hid (Q4.out.put3 (HF.out.ownN 1 rfl) (by simp) (a := .bool (decide (r.num < 0))) (by simp) (b := .slice A4 (dg r.num.natAbs).length c4) (by simp) (.slice B4 (dg r.den).length d4))
        replace HF := Lib.hid (HF.out.put3 1 rfl (by omega) (by simp; omega) (.bool (decide (r.num < 0))) (.slice A4 (dg r.num.natAbs).length c4) (.slice B4 (dg r.den).length d4))
        refine hK.out _ _ ⟨HF.out.cellN 0 rfl 0 rfl, HF.out.cellN 0 rfl 1 rfl, HF.out.cellN 0 rfl 2 rfl⟩ (fun hHeld => ?_)
        clear hK K
        exact hcont (g0, (A3, c3, B3, d3), A4, c4, B4, d4) _ ⟨hgw, HF.out, Q4.out⟩
    · refine value_ (v := ?_) (w1 := ?_) (by rfl) rfl ?_ ?_
      rotate_left
      rotate_left
      · go_simp
        first | rfl | (refine ⟨?_, ?_⟩ <;> rfl)
      have hgw : w.heap.size + 1 ≤ W.heap.size := by have := HF.out.ltN 0 rfl; omega
      try replace Q3 := Lib.hid (Q3.out.below ((Below.refl _ W).alloc (Nat.le_refl _) (.cells #[.bool false, .slice none 0 0, .slice none 0 0] 31)))
      try replace Q4 := Lib.hid (Q4.out.below ((Below.refl _ W).alloc (Nat.le_refl _) (.cells #[.bool false, .slice none 0 0, .slice none 0 0] 31)))
      replace HF := Lib.hid (HF.out.boxEnd [.bool false, .slice none 0 0, .slice none 0 0] 31)
      refine hK.out _ _ ⟨HF.out.cellN 0 rfl 0 rfl, HF.out.cellN 0 rfl 1 rfl, HF.out.cellN 0 rfl 2 rfl⟩ (fun hHeld => ?_)
      clear hK K
      refine norm_ (a' := ?_) ?_ ?_
      rotate_left
      · show Act.put _ (some 8) _ = _
        simp only [Act.put, List.setIfInBounds_toArray, List.set_cons_zero, List.set_cons_succ]
        rfl
      obtain ⟨g0, hg0⟩ : ∃ g0, g0 = W.heap.size := ⟨_, rfl⟩
      obtain ⟨W6, hV⟩ : ∃ X, X = W.alloc (.cells #[.bool false, .slice none 0 0, .slice none 0 0] 31) := ⟨_, rfl⟩
      rw [← hg0] at HF hgw ⊢
      rw [← hV] at HF ⊢
      try rw [← hV] at Q3
      try rw [← hV] at Q4
      clear hg0 hV
      refine one_ (i := 1) (N := (some 40)) #[true, true, false, true, false] rfl rfl (by kernel_rfl) (by decide) (fun K hK => ?_)
      refine goes_ Try.func31 (by kernel_rfl) rfl #[.int .i64 1] (by rfl) rfl rfl (by (try simp only [List.map_toArray, List.map_cons, List.map_nil]); first | done | rfl) ?_
      refine (hW1.out W6).mono ?_
      rintro e W7 ⟨A3, c3, B3, d3, rfl, q1, q2, q3⟩
      refine ⟨_, rfl, ?_⟩
      replace HF := Lib.hid (HF.out.below q3)
      have Q3 := Lib.hid (InQ.mk q1 q2)
      clear q1 q2 q3
      refine hK.out _ _ ⟨HF.out.cellN 0 rfl 0 rfl, HF.out.cellN 0 rfl 1 rfl, HF.out.cellN 0 rfl 2 rfl⟩ (fun hHeld => ?_)
      clear hK K
      refine norm_ (a' := ?_) ?_ ?_
      rotate_left
      · show Act.put _ (some 40) _ = _
        simp only [Act.put, List.setIfInBounds_toArray, List.set_cons_zero, List.set_cons_succ]
        rfl
      refine one_ (i := 2) (N := (some 41)) #[true, true, true, true, false] rfl rfl (by kernel_rfl) (by decide) (fun K hK => ?_)
      refine goes_ Try.func30 (by kernel_rfl) rfl #[.agg #[.bool sg, .slice A xs.length c, .slice B ys.length d], .agg #[.bool (decide (p.num < 0)), .slice A3 (dg p.num.natAbs).length c3, .slice B3 (dg p.den).length d3]] (by rfl) rfl rfl (by (try simp only [List.map_toArray, List.map_cons, List.map_nil]); first | done | rfl) ?_
      refine (hD1.out W7 HF.out.bel A3 c3 B3 d3 Q3.out).mono ?_
      rintro e W8 ⟨A4, c4, B4, d4, rfl, q1, q2, q3⟩
      refine ⟨_, rfl, ?_⟩
      replace HF := Lib.hid (HF.out.below q3)
      have Q4 := Lib.hid (InQ.mk q1 q2)
      clear q1 q2 q3 Q3
      refine hK.out _ _ ⟨HF.out.cellN 0 rfl 0 rfl, HF.out.cellN 0 rfl 1 rfl, HF.out.cellN 0 rfl 2 rfl⟩ (fun hHeld => ?_)
      clear hK K
      refine norm_ (a' := ?_) ?_ ?_
      rotate_left
      · show Act.put _ (some 41) _ = _
        simp only [Act.put, List.setIfInBounds_toArray, List.set_cons_zero, List.set_cons_succ]
        rfl
      refine one_ (i := 4) (N := none) #[true, true, true, true, true] rfl rfl (by kernel_rfl) (by decide) (fun K hK => ?_)
      have hf0 := HF.out.frozenN 1 rfl 0
      have hf1 := HF.out.frozenN 1 rfl 1
      have hf2 := HF.out.frozenN 1 rfl 2
      have hd0 := HF.out.cellN 1 rfl 0 rfl
      have hd1 := HF.out.cellN 1 rfl 1 rfl
      have hd2 := HF.out.cellN 1 rfl 2 rfl
      refine skip_ (w1 := ?_) (by rfl) rfl ?_ ?_
      rotate_left
      · go_simp
        rfl
      replace Q4 := Lib.hid (Q4.out.put3 (HF.out.ownN 1 rfl) (by simp) (a := .bool (decide (r.num < 0))) (by simp) (b := .slice A4 (dg r.num.natAbs).length c4) (by simp) (.slice B4 (dg r.den).length d4))
      replace HF := Lib.hid (HF.out.put3 1 rfl (by omega) (by simp; omega) (.bool (decide (r.num < 0))) (.slice A4 (dg r.num.natAbs).length c4) (.slice B4 (dg r.den).length d4))
      refine hK.out _ _ ⟨HF.out.cellN 0 rfl 0 rfl, HF.out.cellN 0 rfl 1 rfl, HF.out.cellN 0 rfl 2 rfl⟩ (fun hHeld => ?_)
      clear hK K
      exact hcont (g0, (A3, c3, B3, d3), A4, c4, B4, d4) _ ⟨hgw, HF.out, Q4.out⟩
  rintro ⟨g0, ⟨A3, c3, B3, d3⟩, A4, c4, B4, d4⟩ W ⟨hgw, hF_, q1⟩
  clear hHeld
  refine norm_ (a' := ?_) ?_ ?_
  rotate_left
  · show putAll _ _ = _
    simp only [putAll, Act.put, List.setIfInBounds_toArray, List.set_cons_zero, List.set_cons_succ]
    rfl
  refine done_ (by kernel_rfl) ?_
  have HF := Lib.hid hF_
  have Q4 := Lib.hid q1
  clear hF_ q1
  go_wp2_with fail
  replace Q4 := Lib.hid (Q4.out.below (Below.drew (Below.refl _ _)))
  have HF_ := Lib.hid HF.out.drew
  clear HF
  have HF := HF_
  clear HF_
  refine start_ (n := 13) (S := fun w' => w'.cell? ⟨w.heap.size, 0, none⟩ = some (.bool sg) ∧ w'.cell? ⟨w.heap.size, 1, none⟩ = some (.slice A xs.length c) ∧ w'.cell? ⟨w.heap.size, 2, none⟩ = some (.slice B ys.length d) ∧ w'.cell? ⟨g0, 0, none⟩ = some (.bool (decide (r.num < 0))) ∧ w'.cell? ⟨g0, 1, none⟩ = some (.slice A4 (dg r.num.natAbs).length c4) ∧ w'.cell? ⟨g0, 2, none⟩ = some (.slice B4 (dg r.den).length d4)) (ds := []) #[false, false, false, false, false, false, false, false, false, false, false, false, false] (by kernel_rfl) rfl rfl ⟨HF.out.cellN 0 rfl 0 rfl, HF.out.cellN 0 rfl 1 rfl, HF.out.cellN 0 rfl 2 rfl, HF.out.cellN 1 rfl 0 rfl, HF.out.cellN 1 rfl 1 rfl, HF.out.cellN 1 rfl 2 rfl⟩ (fun hHeld => ?_)
  generalize World.drew _ = W at *
  refine pure_ (i := 1) (N := (some 43)) (v := ?_) (a' := ?_) #[false, true, false, false, false, false, false, false, false, false, false, false, false] rfl rfl (by kernel_rfl) (fun _ _ _ h => h) (Or.inl ⟨by rfl, ?_⟩) ?_ ?_
  rotate_left
  · intro w'
    go_simp
    with_reducible rfl
  rotate_left
  · simp only [Act.put, List.setIfInBounds_toArray, List.set_cons_zero, List.set_cons_succ]
    rfl
  refine pure_ (i := 4) (N := (some 46)) (v := ?_) (a' := ?_) #[false, true, false, false, true, false, false, false, false, false, false, false, false] rfl rfl (by kernel_rfl) (fun _ _ _ h => h) (Or.inl ⟨by rfl, ?_⟩) ?_ ?_
  rotate_left
  · intro w'
    go_simp
    with_reducible rfl
  rotate_left
  · simp only [Act.put, List.setIfInBounds_toArray, List.set_cons_zero, List.set_cons_succ]
    rfl
  refine pure_ (i := 6) (N := (some 48)) (v := ?_) (a' := ?_) #[false, true, false, false, true, false, true, false, false, false, false, false, false] rfl rfl (by kernel_rfl) (fun _ _ _ h => h) (Or.inl ⟨by rfl, ?_⟩) ?_ ?_
  rotate_left
  · intro w'
    go_simp
    with_reducible rfl
  rotate_left
  · simp only [Act.put, List.setIfInBounds_toArray, List.set_cons_zero, List.set_cons_succ]
    rfl
  refine take_ (i := 0) (N := (some 42)) (v := ?_) (a' := ?_) #[true, true, false, false, true, false, true, false, false, false, false, false, false] rfl rfl (by kernel_rfl) (fun _ _ _ h => h) (Or.inl ⟨by rfl, ?_⟩) hHeld ?_ ?_
  rotate_left
  · rintro w' ⟨s0, s1, s2, s3, s4, s5⟩
    go_simp
    with_reducible rfl
  rotate_left
  · simp only [Act.put, List.setIfInBounds_toArray, List.set_cons_zero, List.set_cons_succ]
    rfl
  refine take_ (i := 3) (N := (some 45)) (v := ?_) (a' := ?_) #[true, true, false, true, true, false, true, false, false, false, false, false, false] rfl rfl (by kernel_rfl) (fun _ _ _ h => h) (Or.inl ⟨by rfl, ?_⟩) hHeld ?_ ?_
  rotate_left
  · rintro w' ⟨s0, s1, s2, s3, s4, s5⟩
    go_simp
    with_reducible rfl
  rotate_left
  · simp only [Act.put, List.setIfInBounds_toArray, List.set_cons_zero, List.set_cons_succ]
    rfl
  refine one_ (i := 2) (N := (some 44)) #[true, true, true, true, true, false, true, false, false, false, false, false, false] rfl rfl (by kernel_rfl) (by decide) (fun K hK => ?_)
  refine goes_ Try.func25 (by kernel_rfl) rfl #[.agg #[.bool (decide (r.num < 0)), .slice A4 (dg r.num.natAbs).length c4, .slice B4 (dg r.den).length d4], .slice E f.length j] (by rfl) rfl rfl (by (try simp only [List.map_toArray, List.map_cons, List.map_nil]); first | done | rfl) ?_
  refine (hK4.out W HF.out.bel A4 c4 B4 d4 Q4.out).mono ?_
  rintro e W1 ⟨v_, rfl, h1, h2⟩
  refine ⟨_, rfl, ?_⟩
  obtain ⟨E6, e6, rfl, h3⟩ := h1.fin
  have Q6 := Lib.hid h3
  replace HF := Lib.hid (HF.out.below h2)
  clear h1 h2 h3 Q4 hK4
  refine hK.out _ _ ⟨HF.out.cellN 0 rfl 0 rfl, HF.out.cellN 0 rfl 1 rfl, HF.out.cellN 0 rfl 2 rfl, HF.out.cellN 1 rfl 0 rfl, HF.out.cellN 1 rfl 1 rfl, HF.out.cellN 1 rfl 2 rfl⟩ (fun hHeld => ?_)
  clear hK K
  refine norm_ (a' := ?_) ?_ ?_
  rotate_left
  · show Act.put _ (some 44) _ = _
    simp only [Act.put, List.setIfInBounds_toArray, List.set_cons_zero, List.set_cons_succ]
    rfl
  refine one_ (i := 5) (N := (some 47)) #[true, true, true, true, true, true, true, false, false, false, false, false, false] rfl rfl (by kernel_rfl) (by decide) (fun K hK => ?_)
  refine goes_ Try.func25 (by kernel_rfl) rfl #[.agg #[.bool sg, .slice A xs.length c, .slice B ys.length d], .slice E f.length j] (by rfl) rfl rfl (by (try simp only [List.map_toArray, List.map_cons, List.map_nil]); first | done | rfl) ?_
  refine (hK5.out W1 HF.out.bel).mono ?_
  rintro e W2 ⟨v_, rfl, h1, h2⟩
  refine ⟨_, rfl, ?_⟩
  obtain ⟨E7, e7, rfl, h3⟩ := h1.fin
  have Q7 := Lib.hid h3
  replace Q6 := Lib.hid (Q6.out.below h2)
  replace HF := Lib.hid (HF.out.below h2)
  clear h1 h2 h3 hK5
  refine hK.out _ _ ⟨HF.out.cellN 0 rfl 0 rfl, HF.out.cellN 0 rfl 1 rfl, HF.out.cellN 0 rfl 2 rfl, HF.out.cellN 1 rfl 0 rfl, HF.out.cellN 1 rfl 1 rfl, HF.out.cellN 1 rfl 2 rfl⟩ (fun hHeld => ?_)
  clear hK K
  refine norm_ (a' := ?_) ?_ ?_
  rotate_left
  · show Act.put _ (some 47) _ = _
    simp only [Act.put, List.setIfInBounds_toArray, List.set_cons_zero, List.set_cons_succ]
    rfl
  refine one_ (i := 7) (N := (some 49)) #[true, true, true, true, true, true, true, true, false, false, false, false, false] rfl rfl (by kernel_rfl) (by decide) (fun K hK => ?_)
  refine goes_ Try.func27 (by kernel_rfl) rfl #[.slice E7 u.length e7, .slice E f.length j] (by rfl) rfl rfl (by (try simp only [List.map_toArray, List.map_cons, List.map_nil]); first | done | rfl) ?_
  refine (hA4.out W2 HF.out.bel E7 e7 Q7.out).mono ?_
  rintro e W3 ⟨v_, rfl, h1, h2⟩
  refine ⟨_, rfl, ?_⟩
  obtain ⟨E8, e8, rfl, h3⟩ := h1.fin
  have Q8 := Lib.hid h3
  replace Q6 := Lib.hid (Q6.out.below h2)
  replace HF := Lib.hid (HF.out.below h2)
  clear h1 h2 h3 hA4 Q7
  refine hK.out _ _ ⟨HF.out.cellN 0 rfl 0 rfl, HF.out.cellN 0 rfl 1 rfl, HF.out.cellN 0 rfl 2 rfl, HF.out.cellN 1 rfl 0 rfl, HF.out.cellN 1 rfl 1 rfl, HF.out.cellN 1 rfl 2 rfl⟩ (fun hHeld => ?_)
  clear hK K
  refine norm_ (a' := ?_) ?_ ?_
  rotate_left
  · show Act.put _ (some 49) _ = _
    simp only [Act.put, List.setIfInBounds_toArray, List.set_cons_zero, List.set_cons_succ]
    rfl
  refine one_ (i := 8) (N := (some 50)) #[true, true, true, true, true, true, true, true, true, false, false, false, false] rfl rfl (by kernel_rfl) (by decide) (fun K hK => ?_)
  refine goes_ Try.func24 (by kernel_rfl) rfl #[.slice E6 y.length e6, .slice E8 y.length e8] (by rfl) rfl rfl (by (try simp only [List.map_toArray, List.map_cons, List.map_nil]); first | done | rfl) ?_
  refine (same_FormB E6 e6 E8 e8 y y W3 Q6.out Q8.out (by omega) (by omega)).mono ?_
  rintro e W4 ⟨rfl, h2⟩
  refine ⟨_, rfl, ?_⟩
  replace HF := Lib.hid (HF.out.below h2)
  clear h2 Q6 Q8
  rw [decide_eq_true (rfl : y = y)]
  refine hK.out _ _ ⟨HF.out.cellN 0 rfl 0 rfl, HF.out.cellN 0 rfl 1 rfl, HF.out.cellN 0 rfl 2 rfl, HF.out.cellN 1 rfl 0 rfl, HF.out.cellN 1 rfl 1 rfl, HF.out.cellN 1 rfl 2 rfl⟩ (fun hHeld => ?_)
  clear hK K
  refine norm_ (a' := ?_) ?_ ?_
  rotate_left
  · show Act.put _ (some 50) _ = _
    simp only [Act.put, List.setIfInBounds_toArray, List.set_cons_zero, List.set_cons_succ]
    rfl
  refine pure_ (i := 9) (N := (some 51)) (v := ?_) (a' := ?_) #[true, true, true, true, true, true, true, true, true, true, false, false, false] rfl rfl (by kernel_rfl) (fun _ _ _ h => h) (Or.inl ⟨by rfl, ?_⟩) ?_ ?_
  rotate_left
  · intro w'
    go_simp
    with_reducible rfl
  rotate_left
  · simp only [Act.put, List.setIfInBounds_toArray, List.set_cons_zero, List.set_cons_succ]
    rfl
  refine one_ (i := 10) (N := (some 52)) #[true, true, true, true, true, true, true, true, true, true, true, false, false] rfl rfl (by kernel_rfl) (by decide) (fun K hK => ?_)
  refine goes_ Try.func32 (by kernel_rfl) rfl #[] (by rfl) rfl rfl (by (try simp only [List.map_toArray, List.map_cons, List.map_nil]); first | done | rfl) ?_
  refine (HC.out W4).mono ?_
  rintro e W5 ⟨rfl, h2⟩
  refine ⟨_, rfl, ?_⟩
  replace HF := Lib.hid (HF.out.below h2)
  clear h2 HC
  refine hK.out _ _ ⟨HF.out.cellN 0 rfl 0 rfl, HF.out.cellN 0 rfl 1 rfl, HF.out.cellN 0 rfl 2 rfl, HF.out.cellN 1 rfl 0 rfl, HF.out.cellN 1 rfl 1 rfl, HF.out.cellN 1 rfl 2 rfl⟩ (fun hHeld => ?_)
  clear hK K
  refine norm_ (a' := ?_) ?_ ?_
  rotate_left
  · show Act.put _ (some 52) _ = _
    simp only [Act.put, List.setIfInBounds_toArray, List.set_cons_zero, List.set_cons_succ]
    rfl
  refine pure_ (i := 11) (N := (some 53)) (v := ?_) (a' := ?_) #[true, true, true, true, true, true, true, true, true, true, true, true, false] rfl rfl (by kernel_rfl) (fun _ _ _ h => h) (Or.inl ⟨by rfl, ?_⟩) ?_ ?_
  rotate_left
  · intro w'
    go_simp
    with_reducible rfl
  rotate_left
  · simp only [Act.put, List.setIfInBounds_toArray, List.set_cons_zero, List.set_cons_succ]
    rfl
  refine pure_ (i := 12) (N := (some 6)) (v := ?_) (a' := ?_) #[true, true, true, true, true, true, true, true, true, true, true, true, true] rfl rfl (by kernel_rfl) (fun _ _ _ h => h) (Or.inl ⟨by rfl, ?_⟩) ?_ ?_
  rotate_left
  · intro w'
    go_simp
    with_reducible rfl
  rotate_left
  · simp only [Act.put, List.setIfInBounds_toArray, List.set_cons_zero, List.set_cons_succ]
    rfl
  refine done_ (by kernel_rfl) ?_
  go_wp2
  go_ret
  exact ⟨rfl, HF.out.bel⟩
end Go.Proofs.Ytchdoignomidjaa.F
namespace Go.Proofs.Ytchdoignomidjaa.module
open Go.ChangeShapes Go.WideShapes Go.ChangeAt Go.RowKit
open Go.Proofs.Ytchdoignomidjaa.F

set_option maxRecDepth 100000 in
theorem contract (H : Type) (enc : TypeId × Value → H) (W : World) (base : Nat) (args : Array Value) (ds gs : List (DataW H)) (before : List MemPlace)
    (hval : ∀ (j : Nat) t v, Try.f7.params[j]? = some t → args[j]? = some v → Value.okWide Try.prog W .any base t v)
    (hW : DataW.Whole enc Try.prog Try.f7.params.toList Rows.linearModuleSpec.vars false W args.toList ds gs before) (hk : Rows.uptoSmall H (ds ++ gs) = true) :
    Calls Try.prog 7 args W fun e W' => ∃ v, e = .returned v ∧ Rows.linearModuleSpec.post enc Try.prog Try.f7 false true false false W args v W' := by
  have hW' := hW
  obtain ⟨p, q, hA0, hV, rfl, hfz, hnd⟩ := hW
  have hA : DataW.TrodAll enc Try.prog W 0 (fun _ => true) true Try.f7.params.toList args.toList ds p := hA0
  rw [Try.params7] at hA hval
  obtain ⟨v0, vs0, d0, ds0, p0, q0, hargs, rfl, rfl, h0, r0⟩ := trodAll_cons hA
  obtain ⟨v1, vs1, d1, ds1, p1, q1, rfl, rfl, rfl, h1, r1⟩ := trodAll_cons r0
  obtain ⟨v2, vs2, d2, ds2, p2, q2, rfl, rfl, rfl, h2, r2⟩ := trodAll_cons r1
  obtain ⟨rfl, rfl, rfl⟩ := trodAll_nil r2
  obtain rfl : args = #[v0, v1, v2] := by cases args; simp_all
  obtain ⟨rfl, rfl⟩ := trodVars_none hV
  obtain ⟨a0, len0, cap0, rfl⟩ := okWide_slice Try.underlying23 (hval 0 23 v0 rfl rfl)
  have k0 := h0
  have lt0 : ∀ x ∈ p0, x.block < W.heap.size := by obtain ⟨m, hm⟩ := k0; exact DataW.trod_lt m _ _ _ hm
  obtain ⟨m0, g0⟩ := h0
  obtain ⟨f, hC0, ok0⟩ := opens_Form H enc W m0 _ _ g0
  obtain ⟨a1, len1, cap1, rfl⟩ := okWide_slice Try.underlying23 (hval 1 23 v1 rfl rfl)
  have k1 := h1
  have lt1 : ∀ x ∈ p1, x.block < W.heap.size := by obtain ⟨m, hm⟩ := k1; exact DataW.trod_lt m _ _ _ hm
  obtain ⟨m1, g1⟩ := h1
  obtain ⟨g, hC1, ok1⟩ := opens_Form H enc W m1 _ _ g1
  obtain ⟨cs2, rfl, hz2⟩ := okWide_struct Try.underlying31 (hval 2 31 v2 rfl rfl)
  have k2 := h2
  have lt2 : ∀ x ∈ p2, x.block < W.heap.size := by obtain ⟨m, hm⟩ := k2; exact DataW.trod_lt m _ _ _ hm
  obtain ⟨m2, g2⟩ := h2
  obtain ⟨x, hC2, ok2⟩ := opens_Rat H enc W m2 _ _ g2
  have hb : Rows.uptoBulkAll (H := H) [d0, d1, d2] ≤ 1048576 := by
    have h2 := of_decide_eq_true hk
    simpa only [List.append_nil] using h2
  simp only [Rows.uptoBulkAll] at hb
  obtain ⟨A0, c0, e0, hc0, hm0, hr0⟩ := hC0
  obtain ⟨A1, c1, e1, hc1, hm1, hr1⟩ := hC1
  obtain ⟨B2, c2, D2, d2', e2, hq2⟩ := kRat_cells hC2
  simp [Value.cells] at e0 e1
  simp only [Value.cells] at e2
  obtain ⟨rfl, rfl, rfl⟩ := e0
  obtain ⟨rfl, rfl, rfl⟩ := e1
  obtain rfl : cs2 = #[.bool x.1.1, .slice B2 x.1.2.length c2, .slice D2 x.2.length d2'] := by cases cs2; simp_all
  have w0 : (f.map wtm).sum + 1 ≤ Rows.uptoBulk d0 := wt_form ok0
  have w1 : (g.map wtm).sum + 1 ≤ Rows.uptoBulk d1 := wt_form ok1
  have w2 : wt x ≤ Rows.uptoBulk d2 := wt_rat ok2
  have hlaw := law_Module x.1.1 B2 c2 x.1.2 D2 d2' x.2 a0 cap0 f a1 cap1 g W (hq2.num (good_rat ok2)) (hq2.den (good_rat ok2)) (good_rat ok2) hr0 hc0 hr1 hc1 (fun m hm => (ok_mem ok0 hm).elim fun d h => by obtain ⟨_, _, _, _, h⟩ := h; exact good_rat h) (fun m hm => (ok_mem ok1 hm).elim fun d h => by obtain ⟨_, _, _, _, h⟩ := h; exact good_rat h) (by show wt x + _ + _ ≤ _; omega)
  refine hlaw.mono fun e W' ⟨he, bel⟩ => ?_
  subst he
  exact ⟨_, rfl, _, _, _, [], _, [], hW', trodAll_mk1 (shut_bool Try.underlying4 _), (trodAll_cons_mk (Below.trod prog_laid (by kernel_rfl) (of_decide_eq_true (by kernel_rfl)) k0 bel lt0) (trodAll_cons_mk (Below.trod prog_laid (by kernel_rfl) (of_decide_eq_true (by kernel_rfl)) k1 bel lt1) (trodAll_cons_mk (Below.trod prog_laid (by kernel_rfl) (of_decide_eq_true (by kernel_rfl)) k2 bel lt2) trodAll_mk0))), rfl, bel.frame _, fun h => by cases h⟩

set_option maxRecDepth 100000 in
theorem lifted (os : Os) (started : os.Started) (H : Type) (enc : TypeId × Value → H) (F : Stop.Interp) :
    ReturnsInHanded {} Try.checked os 7 .any ((Rows.OpenSpec.upto Rows.linearModuleSpec).pre6 enc Try.prog Try.f7 Rows.linearModuleUptoRow.domain false) (((Rows.OpenSpec.upto Rows.linearModuleSpec).at F).post enc Try.prog Try.f7 false true false false) := by
  refine returnsInHanded_of_cond (C := Try.checked) (s := Rows.OpenSpec.upto Rows.linearModuleSpec) (k := Rows.uptoSmall) rfl prog_own started (by kernel_rfl) Try.func7
    (OpenSpec.witness (enc := enc) (C := Try.checked) (s := Rows.OpenSpec.upto Rows.linearModuleSpec) (k := Rows.uptoSmall) rfl false ⟨#[], #[.slice none 0 0, .slice none 0 0, .agg #[.bool false, .slice none 0 0, .slice none 0 0]], []⟩ 8 (by kernel_rfl) (by kernel_rfl) (by kernel_rfl)
      (x := ([.nil, .nil, .agg [.agg [.lit (.bool false), .nil], .nil]], [], [])) (by kernel_rfl) rfl (by kernel_rfl)) ?_
  intro W base args ds gs before hval hW _ hk _
  exact contract H enc W base args ds gs before hval hW hk

theorem over : Rows.LinearModuleUptoSaid :=
  OpenClaim.holds_of_cond 7 Try.f7 rfl rfl rfl rfl rfl rfl rfl ⟨rfl, rfl, rfl, rfl, rfl⟩ rfl rfl rfl rfl rfl (by kernel_rfl) Try.func7 (by kernel_rfl)
    (of_decide_eq_true (by kernel_rfl)) (by unfold Func.isWrapper; first | (rw [if_pos (by decide +kernel)]; kernel_rfl) | (rw [if_neg (by decide +kernel)]; exact ⟨rfl, rfl⟩))
    (fun os started H enc _ F => lifted os started H enc F)
end Go.Proofs.Ytchdoignomidjaa.module
namespace Go.Proofs.Ytchdoignomidjaa
theorem linearModule_holds : Rows.LinearModuleUptoSaid := module.over
#print axioms linearModule_holds
end Go.Proofs.Ytchdoignomidjaa

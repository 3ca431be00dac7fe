/- LinearPut: for every two affine forms, every variable and every list of values of bulk at most 1048576 together, the value behind a putting in is that with the value put in; the arguments read as they did. -/
import Derived.Test.YtchdoignomidjaaPvp
set_option linter.unusedVariables false
set_option linter.unusedSimpArgs false
namespace Go.Proofs.Ytchdoignomidjaa.F
open Go.RowKit Go.Shelf Go.Proofs.YtchdoignomidjaaW.PrintLast

theorem Fr.swap12 {w W : World} {a b c : Nat × List Value} (h : Fr w W [a, b, c]) : Fr w W [a, c, b] := ⟨h.1, fun p hp => h.2 p (by
  rcases List.mem_cons.1 hp with rfl | hp
  · exact List.mem_cons_self ..
  · rcases List.mem_cons.1 hp with rfl | hp
    · exact List.mem_cons_of_mem _ (List.mem_cons_of_mem _ (List.mem_cons_self ..))
    · rcases List.mem_cons.1 hp with rfl | hp
      · exact List.mem_cons_of_mem _ (List.mem_cons_self ..)
      · cases hp)⟩
/-- what the walks of Value ask -/
structure VOk (f : List (Int × RatD)) (vs : List RatD) : Prop where
  gf : ∀ m ∈ f, Good 137438953472 m.2
  gv : ∀ x ∈ vs, Good 137438953472 x
  hp : ∀ m ∈ f, Sz 137438953472 (tm vs m)
  hs : ∀ i, i ≤ f.length → Sz 137438953472 (valQ (f.take i) vs)
theorem VOk.of {f : List (Int × RatD)} {vs : List RatD} {W : Nat} (hf : ∀ m ∈ f, Good (wt m.2) m.2) (hv : ∀ x ∈ vs, Good (wt x) x) (hV : ∀ x ∈ vs, wt x ≤ W) (hb : (f.map wtm).sum + f.length * W + 1 ≤ 137438953472) (hw : W ≤ 137438953472) (h1 : (f.map wtm).sum + W ≤ 137438953472) : VOk f vs := by
  refine ⟨fun m hm => (hf m hm).mono (by have h1 : wtm m ≤ (f.map wtm).sum := le_sum hm; have h2 := wt_le m; omega), fun x hx => (hv x hx).mono (by have := hV x hx; omega), fun m hm => (sz_tm vs m _ (hf m hm) hv hV).mono (by have : wtm m ≤ _ := le_sum hm; omega), fun i hi => ?_⟩
  refine (sz_val vs (f.take i) _ (fun m hm => hf m (List.mem_of_mem_take hm)) hv hV).mono ?_
  have h1 : ((f.take i).map wtm).sum ≤ (f.map wtm).sum := by
    conv => rhs; rw [← List.take_append_drop i f, List.map_append, List.sum_append]
    omega
  have h2 : (f.take i).length * W ≤ f.length * W := Nat.mul_le_mul_right _ (by rw [List.length_take]; omega)
  omega
theorem vF_mu_take {f : List (Int × RatD)} (hf : ∀ m ∈ f, Good (wt m.2) m.2) (i : Nat) : mf (fval (f.take i)) ≤ (f.map wtm).sum := by
  have h1 := mf_fval (f := f.take i) fun m hm => hf m (List.mem_of_mem_take hm)
  have h2 : (f.map wtm).sum = ((f.take i).map wtm).sum + ((f.drop i).map wtm).sum := by rw [← sum_append, List.take_append_drop]
  omega
/-- the same where one value is a canonical number t -/
theorem VOk.other {f : List (Int × RatD)} {vs : List RatD} (hf : ∀ m ∈ f, Good (wt m.2) m.2) (hv : ∀ x ∈ vs, Good (wt x) x) (k : Nat) (hk : k < vs.length) (t : Rat) (hb : (f.map wtm).sum + f.length * ((vs.map wt).sum + 1) + 1 + ((f.map wtm).sum + 1) + mu t + ((vs.map wt).sum + 1) ≤ 137438953472) : VOk f (vs.set k (canD t)) := by
  have hva := va_mu hv
  refine ⟨fun m hm => (hf m hm).mono (by have h1 : wtm m ≤ (f.map wtm).sum := le_sum hm; have h2 := wt_le m; omega), fun x hx => ?_, fun m hm => ?_, fun i hi => ?_⟩
  · rcases List.mem_or_eq_of_mem_set hx with hx | rfl
    · exact (hv x hx).mono (by have : wt x ≤ _ := le_sum hx; omega)
    · have h1 := mu_len t
      exact ⟨Lim_dg _, Lim_dg _, by show (dg t.num.natAbs).length ≤ _; omega, by show (dg t.den).length ≤ _; omega⟩
  · rw [tm_va, va_set vs k hk]
    have h1 := mu_mul (rq m.2) (put (va vs) (k : Int) t m.1)
    have h2 := mu_rq (hf m hm)
    have h3 : wtm m ≤ (f.map wtm).sum := le_sum hm
    have h4 := wt_le m
    have h5 : mu (put (va vs) (k : Int) t m.1) ≤ mu t + ((vs.map wt).sum + 1) := by
      unfold put
      split
      · omega
      · have := hva m.1; omega
    exact mu_le.1 (by omega)
  · rw [valQ_vF, va_set vs k hk, vF_put]
    have h1 := vF_mu (fval (f.take i)) (va vs) _ hva
    have h2 := vF_mu_take hf i
    have h3 := mu_co (fval (f.take i)) (k : Int)
    have h4 := mu_add (vF (fval (f.take i)) (va vs)) (co (fval (f.take i)) (k : Int) * (t - va vs (k : Int)))
    have h5 := mu_mul (co (fval (f.take i)) (k : Int)) (t - va vs (k : Int))
    have h6 := mu_add t (-va vs (k : Int))
    rw [← Rat.sub_eq_add_neg, mu_neg] at h6
    have h7 := hva (k : Int)
    have h8 : (fval (f.take i)).length * ((vs.map wt).sum + 1) ≤ f.length * ((vs.map wt).sum + 1) := Nat.mul_le_mul_right _ (by rw [fval_length, List.length_take]; omega)
    exact mu_le.1 (by omega)
theorem VOk.mu {f : List (Int × RatD)} {vs : List RatD} (h : VOk f vs) : mu (valQ f vs) ≤ 137438953472 := by
  have := h.hs f.length (Nat.le_refl _)
  rw [List.take_length] at this
  exact mu_le.2 this

set_option maxHeartbeats 16000000 in
set_option maxRecDepth 100000 in
theorem law_Put (A : Option Addr) (c : Nat) (f : List (Int × RatD)) (s1 : Bool) (A1 : Option Addr) (c1 : Nat) (x1 : List Int) (B1 : Option Addr) (d1 : Nat) (y1 : List Int) (v : Int) (A2 : Option Addr) (c2 : Nat) (g : List (Int × RatD)) (s2 : Bool) (A3 : Option Addr) (c3 : Nat) (x2 : List Int) (B3 : Option Addr) (d3 : Nat) (y2 : List Int) (E : Option Addr) (j : Nat) (vs : List RatD) (w : World)
    (hr : kMono.Row w A f) (hc : f.length ≤ c) (hl1 : LiesQ w ((s1, x1), y1) A1 c1 B1 d1) (hr2 : kMono.Row w A2 g) (hc2 : g.length ≤ c2) (hl2 : LiesQ w ((s2, x2), y2) A3 c3 B3 d3) (kr : kRat.Row w E vs) (kc : vs.length ≤ j)
    (gf : GoodA (f, (s1, x1), y1)) (gg : GoodA (g, (s2, x2), y2)) (gv : ∀ x ∈ vs, Good (wt x) x) (hb : wtA (f, (s1, x1), y1) + wtA (g, (s2, x2), y2) + (vs.map wt).sum + 2 ≤ 1048576) :
    Calls Try.prog 13 #[.agg #[.slice A f.length c, .bool s1, .slice A1 x1.length c1, .slice B1 y1.length d1, .int .i64 v, .slice A2 g.length c2, .bool s2, .slice A3 x2.length c3, .slice B3 y2.length d3, .slice E vs.length j]] w fun e w' => e = .returned (.bool true) ∧ Below w.heap.size w w' := by
  unfold wtA at hb
  dsimp only at hb
  have gf0 : ∀ m ∈ f, Good (wt m.2) m.2 := gf.form
  have gg0 : ∀ m ∈ g, Good (wt m.2) m.2 := gg.form
  have hlf : f.length * 7 ≤ (f.map wtm).sum := len_le_sum f fun m _ => wtm7 m
  have hlg : g.length * 7 ≤ (g.map wtm).sum := len_le_sum g fun m _ => wtm7 m
  have hlv : vs.length * 5 ≤ (vs.map wt).sum := len_le_sum vs fun x _ => wt5 x
  have hV : ∀ x ∈ vs, wt x ≤ (vs.map wt).sum := fun x hx => le_sum hx
  have hpf := prod_le2 (n := f.length) (V := (vs.map wt).sum + 1) (by omega)
  have hpg := prod_le2 (n := g.length) (V := (vs.map wt).sum + 1) (by omega)
  have hpa := prod_le2 (n := f.length + g.length) (V := (vs.map wt).sum + 1) (by omega)
  have hpf0 : f.length * (vs.map wt).sum ≤ f.length * ((vs.map wt).sum + 1) := Nat.mul_le_mul_left _ (by omega)
  have hpg0 : g.length * (vs.map wt).sum ≤ g.length * ((vs.map wt).sum + 1) := Nat.mul_le_mul_left _ (by omega)
  have n1 := gf.const.mn
  have n2 := gf.const.md
  have n3 := gg.const.mn
  have n4 := gg.const.md
  dsimp only at n1 n2 n3 n4
  have R : FRaw w A c f := FRaw.of hr hc gf.form (by omega)
  have T : FRaw w A2 c2 g := FRaw.of hr2 hc2 gg.form (by omega)
  have i1 := hl1.num gf.const
  have i2 := hl1.den gf.const
  have i3 := hl2.num gg.const
  have i4 := hl2.den gg.const
  dsimp only at i1 i2 i3 i4
  have vf : VOk f vs := VOk.of gf0 gv hV (by omega) (by omega) (by omega)
  have vg : VOk g vs := VOk.of gg0 gv hV (by omega) (by omega) (by omega)
  have hVf := Lib.hid (fun (W : World) (hb : Below w.heap.size w W) => linear_Value A c f E j vs W 137438953472 (hr.below hb) hc (kr.below hb) kc vf.gf vf.gv vf.hp vf.hs (Nat.le_refl _) (by omega) (by omega))
  have hRf := Lib.hid (fun (W : World) (hb : Below w.heap.size w W) => r6_Value A c f E j vs W 137438953472 (hr.below hb) hc (kr.below hb) kc vf.gf vf.gv vf.hp vf.hs (Nat.le_refl _) (by omega) (by omega))
  have hVg := Lib.hid (fun (W : World) (hb : Below w.heap.size w W) => linear_Value A2 c2 g E j vs W 137438953472 (hr2.below hb) hc2 (kr.below hb) kc vg.gf vg.gv vg.hp vg.hs (Nat.le_refl _) (by omega) (by omega))
  have hAw := Lib.hid (fun (W : World) => law_awake W)
  have HF := Lib.hid ((Fr.refl w).box [.slice A f.length c, .bool s1, .slice A1 x1.length c1, .slice B1 y1.length d1, .int .i64 v, .slice A2 g.length c2, .bool s2, .slice A3 x2.length c3, .slice B3 y2.length d3, .slice E vs.length j] 77)
  -- a comparison of equal numbers
  have hCmp := Lib.hid (show ∀ (q : Rat), mu q ≤ 137438953471 → ∀ (W : World) (A4 : Option Addr) (c4 : Nat) (B4 : Option Addr) (d4 : Nat) (A5 : Option Addr) (c5 : Nat) (B5 : Option Addr) (d5 : Nat), InQ W A4 c4 B4 d4 q → InQ W A5 c5 B5 d5 q → Calls Try.prog 50 #[.agg #[.bool (decide (q.num < 0)), .slice A4 (dg q.num.natAbs).length c4, .slice B4 (dg q.den).length d4], .agg #[.bool (decide (q.num < 0)), .slice A5 (dg q.num.natAbs).length c5, .slice B5 (dg q.den).length d5]] W (ToldZ W 0) from fun q hq W A4 c4 B4 d4 A5 c5 B5 d5 k1 k2 => by
    have l := mu_len q
    have z0 : q + -q = 0 := by grind
    have e := r3_Cmp (decide (q.num < 0)) A4 c4 _ B4 d4 _ (decide (q.num < 0)) A5 c5 _ B5 d5 _ W k1.num (by omega) k1.den (by omega) k2.num (by omega) k2.den (by omega) (by rw [rv_can, z0]; exact Nat.le_trans (mu_len 0).1 (by rw [mu_zero]; omega)) (by rw [rv_can, z0]; exact Nat.le_trans (mu_len 0).2 (by rw [mu_zero]; omega))
    rw [rv_can, z0, show sgn (0 : Rat).num = 0 from rfl] at e
    exact e)
  have hvm := vf.mu
  have hvm2 : mu (valQ f vs) ≤ 137438953471 := by
    rw [valQ_vF]
    have h1 := vF_mu (fval f) (va vs) _ (va_mu gv)
    have h2 := mf_fval gf0
    rw [fval_length] at h1
    omega

  by_cases hin : 0 ≤ v ∧ v < (vs.length : Int)
  · skip
    obtain ⟨k, rfl⟩ : ∃ k : Nat, v = k := ⟨v.toNat, by omega⟩
    have hk : k < vs.length := by omega
    have hsp := mu_split f gf0 (k : Int)
    have u1 := mu_rq gf.const
    have u2 := mu_rq gg.const
    change mu (rv s1 x1 y1) ≤ _ at u1
    change mu (rv s2 x2 y2) ≤ _ at u2
    have hmf := mf_fval gf0
    have hmg := mf_fval gg0
    dsimp only at u1 u2
    have hmq : mu (co (fval f) (k : Int)) ≤ (f.map wtm).sum + 1 := by omega
    have hpq := prod_le2 (n := g.length) (V := mu (co (fval f) (k : Int))) (by omega)
    have g1 := mf_smul (co (fval f) (k : Int)) (fval g)
    rw [fval_length] at g1
    have g2 := mf_nform (smul (co (fval f) (k : Int)) (fval g))
    have f1 := mf_wout (nform (fval f)) (k : Int)
    have f2 := mf_nform (fval f)
    have f4 := wout_len f (k : Int)
    have f6 := fr_length (k : Int) f
    have qr := mu_mul (co (fval f) (k : Int)) (rv s2 x2 y2)
    have pq := mu_add (rv s1 x1 y1) (co (fval f) (k : Int) * rv s2 x2 y2)
    -- the value that is put in
    have mx : mu (valQ g vs) ≤ (g.map wtm).sum + g.length * ((vs.map wt).sum + 1) + 1 := by
      rw [valQ_vF]
      have h1 := vF_mu (fval g) (va vs) _ (va_mu gv)
      rw [fval_length] at h1
      omega
    have mt := mu_add (valQ g vs) (rv s2 x2 y2)
    have lx := mu_len (valQ g vs)
    have hT := Lib.hid (show ∀ (W : World) (hb : Below w.heap.size w W) (A4 : Option Addr) (c4 : Nat) (B4 : Option Addr) (d4 : Nat), InQ W A4 c4 B4 d4 (valQ g vs) → Calls Try.prog 30 #[.agg #[.bool (decide ((valQ g vs).num < 0)), .slice A4 (dg (valQ g vs).num.natAbs).length c4, .slice B4 (dg (valQ g vs).den).length d4], .agg #[.bool s2, .slice A3 x2.length c3, .slice B3 y2.length d3]] W (ToldQ W (valQ g vs + rv s2 x2 y2)) from fun W hb A4 c4 B4 d4 q => by
      have e := r3_Add (decide ((valQ g vs).num < 0)) A4 c4 _ B4 d4 _ s2 A3 c3 x2 B3 d3 y2 W q.num (by omega) q.den (by omega) (i3.below hb) (by omega) (i4.below hb) (by omega)
      rw [rv_can] at e
      exact e)
    have hSub := Lib.hid (fun (W : World) (hb : Below w.heap.size w W) => linear_Subst A c f s1 A1 c1 x1 B1 d1 y1 (k : Int) A2 c2 g s2 A3 c3 x2 B3 d3 y2 W (R.below hb) (T.below hb) (i1.below hb) (by omega) (i2.below hb) (by omega) (i3.below hb) (by omega) (i4.below hb) (by omega) (by omega) (by omega) (mu_ql (by omega)))
    have hlaw := put_law (fval f) (fval g) (k : Int) (rv s1 x1 y1) (rv s2 x2 y2) (va vs)
    have sl := nform_len (wout (nform (fval f)) (k : Int) ++ smul (co (fval f) (k : Int)) (fval g))
    rw [List.length_append, smul_length, fval_length] at sl
    have sm := mf_nform (wout (nform (fval f)) (k : Int) ++ smul (co (fval f) (k : Int)) (fval g))
    rw [mf_append] at sm
    have pl := mu_len (rv s1 x1 y1 + co (fval f) (k : Int) * rv s2 x2 y2)
    generalize rv s1 x1 y1 + co (fval f) (k : Int) * rv s2 x2 y2 = sc at *
    generalize nform (wout (nform (fval f)) (k : Int) ++ smul (co (fval f) (k : Int)) (fval g)) = s at *
    have sln : s.length ≤ f.length + g.length := by omega
    have hsv : s.length * ((vs.map wt).sum + 1) ≤ (f.length + g.length) * ((vs.map wt).sum + 1) := Nat.mul_le_mul_right _ sln
    have hsv0 : s.length * (vs.map wt).sum ≤ s.length * ((vs.map wt).sum + 1) := Nat.mul_le_mul_left _ (by omega)
    have swt := wtm_can s
    have vS : VOk (s.map canM) vs := VOk.of (fun m hm => by obtain ⟨x, _, rfl⟩ := List.mem_map.1 hm; exact good_can _) gv hV (by rw [List.length_map]; omega) (by omega) (by omega)
    have hVs := Lib.hid (show ∀ (W : World) (hb : Below w.heap.size w W) (E6 : Option Addr) (e6 : Nat), FIn W E6 e6 s → Calls Try.prog 17 #[.slice E6 s.length e6, .slice E vs.length j] W (ToldQ W (vF s (va vs))) from fun W hb E6 e6 k1 => by
      have e := linear_Value E6 e6 (s.map canM) E j vs W 137438953472 k1.row (by rw [List.length_map]; exact k1.cap) (kr.below hb) kc vS.gf vS.gv vS.hp vS.hs (Nat.le_refl _) (by rw [List.length_map]; omega) (by omega)
      rw [List.length_map, valQ_vF, fval_can] at e
      exact e)
    have ms := vF_mu s (va vs) _ (va_mu gv)
    have lms := mu_len (vF s (va vs))
    have hL := Lib.hid (show ∀ (W : World) (A4 : Option Addr) (c4 : Nat) (B4 : Option Addr) (d4 : Nat) (A5 : Option Addr) (c5 : Nat) (B5 : Option Addr) (d5 : Nat), InQ W A4 c4 B4 d4 (vF s (va vs)) → InQ W A5 c5 B5 d5 sc → Calls Try.prog 30 #[.agg #[.bool (decide ((vF s (va vs)).num < 0)), .slice A4 (dg (vF s (va vs)).num.natAbs).length c4, .slice B4 (dg (vF s (va vs)).den).length d4], .agg #[.bool (decide (sc.num < 0)), .slice A5 (dg sc.num.natAbs).length c5, .slice B5 (dg sc.den).length d5]] W (ToldQ W (vF s (va vs) + sc)) from fun W A4 c4 B4 d4 A5 c5 B5 d5 k1 k2 => by
      have e := r3_Add (decide ((vF s (va vs)).num < 0)) A4 c4 _ B4 d4 _ (decide (sc.num < 0)) A5 c5 _ B5 d5 _ W k1.num (by omega) k1.den (by omega) k2.num (by omega) k2.den (by omega)
      rw [rv_can, rv_can] at e
      exact e)
    have mL := mu_add (vF s (va vs)) sc
    have hCL := Lib.hid (hCmp.out (vF s (va vs) + sc) (by omega))
    obtain ⟨t, ht⟩ : ∃ t, t = valQ g vs + rv s2 x2 y2 := ⟨_, rfl⟩
    rw [← ht] at hT mt
    have vO : VOk f (vs.set k (canD t)) := VOk.other gf0 gv k hk t (by omega)
    have mY := vO.mu
    have lY := mu_len (valQ f (vs.set k (canD t)))
    have hVo := Lib.hid (show ∀ (W : World) (hb : Below w.heap.size w W) (E7 : Option Addr) (e7 : Nat), kRat.Row W E7 (vs.set k (canD t)) → vs.length ≤ e7 → Calls Try.prog 17 #[.slice A f.length c, .slice E7 vs.length e7] W (ToldQ W (valQ f (vs.set k (canD t)))) from fun W hb E7 e7 k1 k2 => by
      have e := linear_Value A c f E7 e7 (vs.set k (canD t)) W 137438953472 (hr.below hb) hc k1 (by rw [List.length_set]; exact k2) vO.gf vO.gv vO.hp vO.hs (Nat.le_refl _) (by omega) (by rw [List.length_set]; omega)
      rw [List.length_set] at e
      exact e)
    have hYL : valQ f (vs.set k (canD t)) + rv s1 x1 y1 = vF s (va vs) + sc := by
      rw [hlaw, valQ_vF, va_set vs k hk, ht, valQ_vF]
    have hRr := Lib.hid (show ∀ (W : World) (hb : Below w.heap.size w W) (A4 : Option Addr) (c4 : Nat) (B4 : Option Addr) (d4 : Nat), InQ W A4 c4 B4 d4 (valQ f (vs.set k (canD t))) → Calls Try.prog 30 #[.agg #[.bool (decide ((valQ f (vs.set k (canD t))).num < 0)), .slice A4 (dg (valQ f (vs.set k (canD t))).num.natAbs).length c4, .slice B4 (dg (valQ f (vs.set k (canD t))).den).length d4], .agg #[.bool s1, .slice A1 x1.length c1, .slice B1 y1.length d1]] W (ToldQ W (vF s (va vs) + sc)) from fun W hb A4 c4 B4 d4 k1 => by
      have e := r3_Add (decide ((valQ f (vs.set k (canD t))).num < 0)) A4 c4 _ B4 d4 _ s1 A1 c1 x1 B1 d1 y1 W k1.num (by omega) k1.den (by omega) (i1.below hb) (by omega) (i2.below hb) (by omega)
      rw [rv_can, hYL] at e
      exact e)
    have mt2 : mu t ≤ 137438953471 := by omega
    have KR := Lib.hid kr
    have GV := Lib.hid gv
    have HVw := Lib.hid (show ∀ x ∈ vs, wt x ≤ 1048576 from fun x hx => Nat.le_trans (hV x hx) (by omega))
    have hvl : vs.length ≤ 1048576 := by omega
    clear hr hc hl1 hr2 hc2 hl2 kr kc gf gg gf0 gg0 gv hb hlf hlg hlv hV hpf hpg hpa hpf0 hpg0 n1 n2 n3 n4 R T i1 i2 i3 i4 vf vg hVf hRf hCmp hvm hvm2 hin hsp u1 u2 hmf hmg hmq hpq g1 g2 f1 f2 f4 f6 qr pq mx mt lx hlaw sl sm pl sln hsv hsv0 swt vS ms lms mL ht vO mY lY hYL
    generalize valQ g vs = X at *
    generalize valQ f (vs.set k (canD t)) = Y at *
    generalize vF s (va vs) = Z at *
    obtain ⟨L, hLq⟩ : ∃ L, L = Z + sc := ⟨_, rfl⟩
    rw [← hLq] at hL hCL hRr
    clear hLq
    have hk0 : ¬ (k : Int) < 0 := by omega
    have hk1 : ¬ (vs.length : Int) ≤ (k : Int) := by omega
    have hk2 : (k : Int) < (vs.length : Int) := by omega
    have hk3 : (0 : Int) ≤ (k : Int) := by omega
    have hk4 : ¬ vs.length ≤ k := by omega
    have hk5 : decide ((k : Int) < 0) = false := decide_eq_false hk0
    have hk6 : decide (vs.length ≤ k) = false := decide_eq_false hk4
    go_enter Try.func13, Try.ntmps13
    go_wp2_with fail
    have HF_ := Lib.hid HF.out.drew
    clear HF
    have HF := HF_
    clear HF_
    refine start_ (n := 14) (S := fun w' => w'.cell? ⟨w.heap.size, 0, none⟩ = some (.slice A f.length c) ∧ w'.cell? ⟨w.heap.size, 1, none⟩ = some (.bool s1) ∧ w'.cell? ⟨w.heap.size, 2, none⟩ = some (.slice A1 x1.length c1) ∧ w'.cell? ⟨w.heap.size, 3, none⟩ = some (.slice B1 y1.length d1) ∧ w'.cell? ⟨w.heap.size, 4, none⟩ = some (.int .i64 (k : Int)) ∧ w'.cell? ⟨w.heap.size, 5, none⟩ = some (.slice A2 g.length c2) ∧ w'.cell? ⟨w.heap.size, 6, none⟩ = some (.bool s2) ∧ w'.cell? ⟨w.heap.size, 7, none⟩ = some (.slice A3 x2.length c3) ∧ w'.cell? ⟨w.heap.size, 8, none⟩ = some (.slice B3 y2.length d3) ∧ w'.cell? ⟨w.heap.size, 9, none⟩ = some (.slice E vs.length j)) (ds := []) #[false, false, false, false, false, false, false, false, false, false, false, false, false, false] (by kernel_rfl) rfl rfl ⟨HF.out.cellN 0 rfl 0 rfl, HF.out.cellN 0 rfl 1 rfl, HF.out.cellN 0 rfl 2 rfl, HF.out.cellN 0 rfl 3 rfl, HF.out.cellN 0 rfl 4 rfl, HF.out.cellN 0 rfl 5 rfl, HF.out.cellN 0 rfl 6 rfl, HF.out.cellN 0 rfl 7 rfl, HF.out.cellN 0 rfl 8 rfl, HF.out.cellN 0 rfl 9 rfl⟩ (fun hHeld => ?_)
    generalize World.drew _ = W at *
    refine pure_ (i := 0) (N := (some 12)) (v := ?_) (a' := ?_) #[true, false, false, false, false, false, false, false, false, false, false, false, false, false] rfl rfl (by kernel_rfl) (fun _ _ _ h => h) (Or.inl ⟨by rfl, ?_⟩) ?_ ?_
    rotate_left
    · intro w'
      go_simp
      with_reducible rfl
    rotate_left
    · simp only [Act.put, List.setIfInBounds_toArray, List.set_cons_zero, List.set_cons_succ]
      rfl
    refine pure_ (i := 2) (N := (some 14)) (v := ?_) (a' := ?_) #[true, false, true, false, false, false, false, false, false, false, false, false, false, false] rfl rfl (by kernel_rfl) (fun _ _ _ h => h) (Or.inl ⟨by rfl, ?_⟩) ?_ ?_
    rotate_left
    · intro w'
      go_simp
      with_reducible rfl
    rotate_left
    · simp only [Act.put, List.setIfInBounds_toArray, List.set_cons_zero, List.set_cons_succ]
      rfl
    refine pure_ (i := 4) (N := (some 16)) (v := ?_) (a' := ?_) #[true, false, true, false, true, false, false, false, false, false, false, false, false, false] rfl rfl (by kernel_rfl) (fun _ _ _ h => h) (Or.inl ⟨by rfl, ?_⟩) ?_ ?_
    rotate_left
    · intro w'
      go_simp
      with_reducible rfl
    rotate_left
    · simp only [Act.put, List.setIfInBounds_toArray, List.set_cons_zero, List.set_cons_succ]
      rfl
    refine pure_ (i := 6) (N := (some 18)) (v := ?_) (a' := ?_) #[true, false, true, false, true, false, true, false, false, false, false, false, false, false] rfl rfl (by kernel_rfl) (fun _ _ _ h => h) (Or.inl ⟨by rfl, ?_⟩) ?_ ?_
    rotate_left
    · intro w'
      go_simp
      with_reducible rfl
    rotate_left
    · simp only [Act.put, List.setIfInBounds_toArray, List.set_cons_zero, List.set_cons_succ]
      rfl
    refine take_ (i := 1) (N := (some 13)) (v := ?_) (a' := ?_) #[true, true, true, false, true, false, true, false, false, false, false, false, false, false] rfl rfl (by kernel_rfl) (fun _ _ _ h => h) (Or.inl ⟨by rfl, ?_⟩) hHeld ?_ ?_
    rotate_left
    · rintro w' ⟨s0, s1, s2, s3, s4, s5, s6, s7, s8, s9⟩
      go_simp
      with_reducible rfl
    rotate_left
    · simp only [Act.put, List.setIfInBounds_toArray, List.set_cons_zero, List.set_cons_succ]
      rfl
    refine take_ (i := 3) (N := (some 15)) (v := ?_) (a' := ?_) #[true, true, true, true, true, false, true, false, false, false, false, false, false, false] rfl rfl (by kernel_rfl) (fun _ _ _ h => h) (Or.inl ⟨by rfl, ?_⟩) hHeld ?_ ?_
    rotate_left
    · rintro w' ⟨s0, s1, s2, s3, s4, s5, s6, s7, s8, s9⟩
      go_simp
      with_reducible rfl
    rotate_left
    · simp only [Act.put, List.setIfInBounds_toArray, List.set_cons_zero, List.set_cons_succ]
      rfl
    refine take_ (i := 5) (N := (some 17)) (v := ?_) (a' := ?_) #[true, true, true, true, true, true, true, false, false, false, false, false, false, false] rfl rfl (by kernel_rfl) (fun _ _ _ h => h) (Or.inl ⟨by rfl, ?_⟩) hHeld ?_ ?_
    rotate_left
    · rintro w' ⟨s0, s1, s2, s3, s4, s5, s6, s7, s8, s9⟩
      go_simp
      with_reducible rfl
    rotate_left
    · simp only [Act.put, List.setIfInBounds_toArray, List.set_cons_zero, List.set_cons_succ]
      rfl
    refine take_ (i := 7) (N := (some 19)) (v := ?_) (a' := ?_) #[true, true, true, true, true, true, true, true, false, false, false, false, false, false] rfl rfl (by kernel_rfl) (fun _ _ _ h => h) (Or.inl ⟨by rfl, ?_⟩) hHeld ?_ ?_
    rotate_left
    · rintro w' ⟨s0, s1, s2, s3, s4, s5, s6, s7, s8, s9⟩
      go_simp
      with_reducible rfl
    rotate_left
    · simp only [Act.put, List.setIfInBounds_toArray, List.set_cons_zero, List.set_cons_succ]
      rfl
    refine join_ (σ := Nat × Nat) 0 #[true, true, true, true, true, true, true, true, true, true, true, true, true, true] (fun ⟨g1, g2⟩ => [(3, .pointer (some ⟨g1, 0, none⟩)), (5, .pointer (some ⟨g2, 0, none⟩)), (4, .int .i64 (k : Int)), (6, .slice E vs.length j)]) (fun ⟨g1, g2⟩ W' => w.heap.size + 1 ≤ g1 ∧ w.heap.size + 1 ≤ g2 ∧ g1 ≠ g2 ∧ Fr w W' [(w.heap.size, [.slice A f.length c, .bool s1, .slice A1 x1.length c1, .slice B1 y1.length d1, .int .i64 (k : Int), .slice A2 g.length c2, .bool s2, .slice A3 x2.length c3, .slice B3 y2.length d3, .slice E vs.length j]), (g1, [.slice A f.length c, .bool s1, .slice A1 x1.length c1, .slice B1 y1.length d1]), (g2, [.slice A2 g.length c2, .bool s2, .slice A3 x2.length c3, .slice B3 y2.length d3])]) ?hc0 ?hm0
    case hm0 =>
      intro hcont
      refine two_ (i := 8) (j := 9) (Ni := (some 3)) (Nj := (some 5)) #[true, true, true, true, true, true, true, true, true, false, false, false, false, false] #[true, true, true, true, true, true, true, true, false, true, false, false, false, false] rfl rfl rfl rfl (by kernel_rfl) (by decide) (by decide) (fun K hK => ?_) (fun K hK => ?_)
      · refine value_ (v := ?_) (w1 := ?_) (by rfl) rfl ?_ ?_
        rotate_left
        rotate_left
        · go_simp
          first | rfl | (refine ⟨?_, ?_⟩ <;> rfl)
        have hg1 : w.heap.size + 1 ≤ W.heap.size := by have := HF.out.ltN 0 rfl; omega
        have hd1_ : ∀ x : Nat, x < W.heap.size → W.heap.size ≠ x := fun x hx => by omega
        have hd2_ : ∀ p, p ∈ [W.heap.size] → True := fun _ _ => trivial
        try have hg12 : W.heap.size ≠ g2 := hd1_ g2 (by have := HF.out.ltN 1 rfl; omega)
        replace HF := Lib.hid (HF.out.boxEnd [.slice none 0 0, .bool false, .slice none 0 0, .slice none 0 0] 60)
        try replace HF := Lib.hid (HF.out.swap12)
        clear hd1_ hd2_
        refine hK.out _ _ ⟨HF.out.cellN 0 rfl 0 rfl, HF.out.cellN 0 rfl 1 rfl, HF.out.cellN 0 rfl 2 rfl, HF.out.cellN 0 rfl 3 rfl, HF.out.cellN 0 rfl 4 rfl, HF.out.cellN 0 rfl 5 rfl, HF.out.cellN 0 rfl 6 rfl, HF.out.cellN 0 rfl 7 rfl, HF.out.cellN 0 rfl 8 rfl, HF.out.cellN 0 rfl 9 rfl⟩ (fun hHeld => ?_)
        clear hK K
        refine norm_ (a' := ?_) ?_ ?_
        rotate_left
        · show Act.put _ (some 3) _ = _
          simp only [Act.put, List.setIfInBounds_toArray, List.set_cons_zero, List.set_cons_succ]
          rfl
        obtain ⟨g1, hg0⟩ : ∃ g0, g0 = W.heap.size := ⟨_, rfl⟩
        obtain ⟨W1, hV⟩ : ∃ X, X = W.alloc (.cells #[.slice none 0 0, .bool false, .slice none 0 0, .slice none 0 0] 60) := ⟨_, rfl⟩
        rw [← hg0] at HF hg1 ⊢
        try rw [← hg0] at hg12
        rw [← hV] at HF ⊢
        clear hg0 hV
        refine one_ (i := 9) (N := (some 5)) #[true, true, true, true, true, true, true, true, true, true, false, false, false, false] rfl rfl (by kernel_rfl) (by decide) (fun K hK => ?_)
        refine value_ (v := ?_) (w1 := ?_) (by rfl) rfl ?_ ?_
        rotate_left
        rotate_left
        · go_simp
          first | rfl | (refine ⟨?_, ?_⟩ <;> rfl)
        have hg2 : w.heap.size + 1 ≤ W1.heap.size := by have := HF.out.ltN 0 rfl; omega
        try have hg12 : g1 ≠ W1.heap.size := (by have := HF.out.ltN 1 rfl; omega)
        replace HF := Lib.hid (HF.out.boxEnd [.slice none 0 0, .bool false, .slice none 0 0, .slice none 0 0] 60)
        refine hK.out _ _ ⟨HF.out.cellN 0 rfl 0 rfl, HF.out.cellN 0 rfl 1 rfl, HF.out.cellN 0 rfl 2 rfl, HF.out.cellN 0 rfl 3 rfl, HF.out.cellN 0 rfl 4 rfl, HF.out.cellN 0 rfl 5 rfl, HF.out.cellN 0 rfl 6 rfl, HF.out.cellN 0 rfl 7 rfl, HF.out.cellN 0 rfl 8 rfl, HF.out.cellN 0 rfl 9 rfl⟩ (fun hHeld => ?_)
        clear hK K
        refine norm_ (a' := ?_) ?_ ?_
        rotate_left
        · show Act.put _ (some 5) _ = _
          simp only [Act.put, List.setIfInBounds_toArray, List.set_cons_zero, List.set_cons_succ]
          rfl
        obtain ⟨g2, hg0⟩ : ∃ g0, g0 = W1.heap.size := ⟨_, rfl⟩
        obtain ⟨W2, hV⟩ : ∃ X, X = W1.alloc (.cells #[.slice none 0 0, .bool false, .slice none 0 0, .slice none 0 0] 60) := ⟨_, rfl⟩
        rw [← hg0] at HF hg2 ⊢
        try rw [← hg0] at hg12
        rw [← hV] at HF ⊢
        clear hg0 hV
        refine one_ (i := 10) (N := none) #[true, true, true, true, true, true, true, true, true, true, true, false, false, false] rfl rfl (by kernel_rfl) (by decide) (fun K hK => ?_)
        have hf0 := HF.out.frozenN 1 rfl 0
        have hf1 := HF.out.frozenN 1 rfl 1
        have hf2 := HF.out.frozenN 1 rfl 2
        have hf3 := HF.out.frozenN 1 rfl 3
        have hd0 := HF.out.cellN 1 rfl 0 rfl
        have hd1 := HF.out.cellN 1 rfl 1 rfl
        have hd2 := HF.out.cellN 1 rfl 2 rfl
        have hd3 := HF.out.cellN 1 rfl 3 rfl
        refine skip_ (w1 := ?_) (by rfl) rfl ?_ ?_
        rotate_left
        · go_simp
          rfl
        replace HF := Lib.hid (HF.out.put4 1 rfl (by omega) (by simp <;> omega) (.slice A f.length c) (.bool s1) (.slice A1 x1.length c1) (.slice B1 y1.length d1))
        clear hf0 hf1 hf2 hf3 hd0 hd1 hd2 hd3
        refine hK.out _ _ ⟨HF.out.cellN 0 rfl 0 rfl, HF.out.cellN 0 rfl 1 rfl, HF.out.cellN 0 rfl 2 rfl, HF.out.cellN 0 rfl 3 rfl, HF.out.cellN 0 rfl 4 rfl, HF.out.cellN 0 rfl 5 rfl, HF.out.cellN 0 rfl 6 rfl, HF.out.cellN 0 rfl 7 rfl, HF.out.cellN 0 rfl 8 rfl, HF.out.cellN 0 rfl 9 rfl⟩ (fun hHeld => ?_)
        clear hK K
        refine pure_ (i := 11) (N := (some 4)) (v := ?_) (a' := ?_) #[true, true, true, true, true, true, true, true, true, true, true, true, false, false] rfl rfl (by kernel_rfl) (fun _ _ _ h => h) (Or.inl ⟨by rfl, ?_⟩) ?_ ?_
        rotate_left
        · intro w'
          go_simp
          with_reducible rfl
        rotate_left
        · simp only [Act.put, List.setIfInBounds_toArray, List.set_cons_zero, List.set_cons_succ]
          rfl
        refine one_ (i := 12) (N := none) #[true, true, true, true, true, true, true, true, true, true, true, true, true, false] rfl rfl (by kernel_rfl) (by decide) (fun K hK => ?_)
        have hf0 := HF.out.frozenN 2 rfl 0
        have hf1 := HF.out.frozenN 2 rfl 1
        have hf2 := HF.out.frozenN 2 rfl 2
        have hf3 := HF.out.frozenN 2 rfl 3
        have hd0 := HF.out.cellN 2 rfl 0 rfl
        have hd1 := HF.out.cellN 2 rfl 1 rfl
        have hd2 := HF.out.cellN 2 rfl 2 rfl
        have hd3 := HF.out.cellN 2 rfl 3 rfl
        refine skip_ (w1 := ?_) (by rfl) rfl ?_ ?_
        rotate_left
        · go_simp
          rfl
        replace HF := Lib.hid (HF.out.put4 2 rfl (by omega) (by simp <;> omega) (.slice A2 g.length c2) (.bool s2) (.slice A3 x2.length c3) (.slice B3 y2.length d3))
        clear hf0 hf1 hf2 hf3 hd0 hd1 hd2 hd3
        refine hK.out _ _ ⟨HF.out.cellN 0 rfl 0 rfl, HF.out.cellN 0 rfl 1 rfl, HF.out.cellN 0 rfl 2 rfl, HF.out.cellN 0 rfl 3 rfl, HF.out.cellN 0 rfl 4 rfl, HF.out.cellN 0 rfl 5 rfl, HF.out.cellN 0 rfl 6 rfl, HF.out.cellN 0 rfl 7 rfl, HF.out.cellN 0 rfl 8 rfl, HF.out.cellN 0 rfl 9 rfl⟩ (fun hHeld => ?_)
        clear hK K
        refine pure_ (i := 13) (N := (some 6)) (v := ?_) (a' := ?_) #[true, true, true, true, true, true, true, true, true, true, true, true, true, true] rfl rfl (by kernel_rfl) (fun _ _ _ h => h) (Or.inl ⟨by rfl, ?_⟩) ?_ ?_
        rotate_left
        · intro w'
          go_simp
          with_reducible rfl
        rotate_left
        · simp only [Act.put, List.setIfInBounds_toArray, List.set_cons_zero, List.set_cons_succ]
          rfl
        exact hcont (g1, g2) _ ⟨hg1, hg2, hg12, HF.out⟩
      · refine value_ (v := ?_) (w1 := ?_) (by rfl) rfl ?_ ?_
        rotate_left
        rotate_left
        · go_simp
          first | rfl | (refine ⟨?_, ?_⟩ <;> rfl)
        have hg2 : w.heap.size + 1 ≤ W.heap.size := by have := HF.out.ltN 0 rfl; omega
        try have hg12 : g1 ≠ W.heap.size := (by have := HF.out.ltN 1 rfl; omega)
        replace HF := Lib.hid (HF.out.boxEnd [.slice none 0 0, .bool false, .slice none 0 0, .slice none 0 0] 60)
        refine hK.out _ _ ⟨HF.out.cellN 0 rfl 0 rfl, HF.out.cellN 0 rfl 1 rfl, HF.out.cellN 0 rfl 2 rfl, HF.out.cellN 0 rfl 3 rfl, HF.out.cellN 0 rfl 4 rfl, HF.out.cellN 0 rfl 5 rfl, HF.out.cellN 0 rfl 6 rfl, HF.out.cellN 0 rfl 7 rfl, HF.out.cellN 0 rfl 8 rfl, HF.out.cellN 0 rfl 9 rfl⟩ (fun hHeld => ?_)
        clear hK K
        refine norm_ (a' := ?_) ?_ ?_
        rotate_left
        · show Act.put _ (some 5) _ = _
          simp only [Act.put, List.setIfInBounds_toArray, List.set_cons_zero, List.set_cons_succ]
          rfl
        obtain ⟨g2, hg0⟩ : ∃ g0, g0 = W.heap.size := ⟨_, rfl⟩
        obtain ⟨W3, hV⟩ : ∃ X, X = W.alloc (.cells #[.slice none 0 0, .bool false, .slice none 0 0, .slice none 0 0] 60) := ⟨_, rfl⟩
        rw [← hg0] at HF hg2 ⊢
        try rw [← hg0] at hg12
        rw [← hV] at HF ⊢
        clear hg0 hV
        refine one_ (i := 8) (N := (some 3)) #[true, true, true, true, true, true, true, true, true, true, false, false, false, false] rfl rfl (by kernel_rfl) (by decide) (fun K hK => ?_)
        refine value_ (v := ?_) (w1 := ?_) (by rfl) rfl ?_ ?_
        rotate_left
        rotate_left
        · go_simp
          first | rfl | (refine ⟨?_, ?_⟩ <;> rfl)
        have hg1 : w.heap.size + 1 ≤ W3.heap.size := by have := HF.out.ltN 0 rfl; omega
        have hd1_ : ∀ x : Nat, x < W3.heap.size → W3.heap.size ≠ x := fun x hx => by omega
        have hd2_ : ∀ p, p ∈ [W3.heap.size] → True := fun _ _ => trivial
        try have hg12 : W3.heap.size ≠ g2 := hd1_ g2 (by have := HF.out.ltN 1 rfl; omega)
        replace HF := Lib.hid (HF.out.boxEnd [.slice none 0 0, .bool false, .slice none 0 0, .slice none 0 0] 60)
        try replace HF := Lib.hid (HF.out.swap12)
        clear hd1_ hd2_
        refine hK.out _ _ ⟨HF.out.cellN 0 rfl 0 rfl, HF.out.cellN 0 rfl 1 rfl, HF.out.cellN 0 rfl 2 rfl, HF.out.cellN 0 rfl 3 rfl, HF.out.cellN 0 rfl 4 rfl, HF.out.cellN 0 rfl 5 rfl, HF.out.cellN 0 rfl 6 rfl, HF.out.cellN 0 rfl 7 rfl, HF.out.cellN 0 rfl 8 rfl, HF.out.cellN 0 rfl 9 rfl⟩ (fun hHeld => ?_)
        clear hK K
        refine norm_ (a' := ?_) ?_ ?_
        rotate_left
        · show Act.put _ (some 3) _ = _
          simp only [Act.put, List.setIfInBounds_toArray, List.set_cons_zero, List.set_cons_succ]
          rfl
        obtain ⟨g1, hg0⟩ : ∃ g0, g0 = W3.heap.size := ⟨_, rfl⟩
        obtain ⟨W4, hV⟩ : ∃ X, X = W3.alloc (.cells #[.slice none 0 0, .bool false, .slice none 0 0, .slice none 0 0] 60) := ⟨_, rfl⟩
        rw [← hg0] at HF hg1 ⊢
        try rw [← hg0] at hg12
        rw [← hV] at HF ⊢
        clear hg0 hV
        refine one_ (i := 10) (N := none) #[true, true, true, true, true, true, true, true, true, true, true, false, false, false] rfl rfl (by kernel_rfl) (by decide) (fun K hK => ?_)
        have hf0 := HF.out.frozenN 1 rfl 0
        have hf1 := HF.out.frozenN 1 rfl 1
        have hf2 := HF.out.frozenN 1 rfl 2
        have hf3 := HF.out.frozenN 1 rfl 3
        have hd0 := HF.out.cellN 1 rfl 0 rfl
        have hd1 := HF.out.cellN 1 rfl 1 rfl
        have hd2 := HF.out.cellN 1 rfl 2 rfl
        have hd3 := HF.out.cellN 1 rfl 3 rfl
        refine skip_ (w1 := ?_) (by rfl) rfl ?_ ?_
        rotate_left
        · go_simp
          rfl
        replace HF := Lib.hid (HF.out.put4 1 rfl (by omega) (by simp <;> omega) (.slice A f.length c) (.bool s1) (.slice A1 x1.length c1) (.slice B1 y1.length d1))
        clear hf0 hf1 hf2 hf3 hd0 hd1 hd2 hd3
        refine hK.out _ _ ⟨HF.out.cellN 0 rfl 0 rfl, HF.out.cellN 0 rfl 1 rfl, HF.out.cellN 0 rfl 2 rfl, HF.out.cellN 0 rfl 3 rfl, HF.out.cellN 0 rfl 4 rfl, HF.out.cellN 0 rfl 5 rfl, HF.out.cellN 0 rfl 6 rfl, HF.out.cellN 0 rfl 7 rfl, HF.out.cellN 0 rfl 8 rfl, HF.out.cellN 0 rfl 9 rfl⟩ (fun hHeld => ?_)
        clear hK K
        refine pure_ (i := 11) (N := (some 4)) (v := ?_) (a' := ?_) #[true, true, true, true, true, true, true, true, true, true, true, true, false, false] rfl rfl (by kernel_rfl) (fun _ _ _ h => h) (Or.inl ⟨by rfl, ?_⟩) ?_ ?_
        rotate_left
        · intro w'
          go_simp
          with_reducible rfl
        rotate_left
        · simp only [Act.put, List.setIfInBounds_toArray, List.set_cons_zero, List.set_cons_succ]
          rfl
        refine one_ (i := 12) (N := none) #[true, true, true, true, true, true, true, true, true, true, true, true, true, false] rfl rfl (by kernel_rfl) (by decide) (fun K hK => ?_)
        have hf0 := HF.out.frozenN 2 rfl 0
        have hf1 := HF.out.frozenN 2 rfl 1
        have hf2 := HF.out.frozenN 2 rfl 2
        have hf3 := HF.out.frozenN 2 rfl 3
        have hd0 := HF.out.cellN 2 rfl 0 rfl
        have hd1 := HF.out.cellN 2 rfl 1 rfl
        have hd2 := HF.out.cellN 2 rfl 2 rfl
        have hd3 := HF.out.cellN 2 rfl 3 rfl
        refine skip_ (w1 := ?_) (by rfl) rfl ?_ ?_
        rotate_left
        · go_simp
          rfl
        replace HF := Lib.hid (HF.out.put4 2 rfl (by omega) (by simp <;> omega) (.slice A2 g.length c2) (.bool s2) (.slice A3 x2.length c3) (.slice B3 y2.length d3))
        clear hf0 hf1 hf2 hf3 hd0 hd1 hd2 hd3
        refine hK.out _ _ ⟨HF.out.cellN 0 rfl 0 rfl, HF.out.cellN 0 rfl 1 rfl, HF.out.cellN 0 rfl 2 rfl, HF.out.cellN 0 rfl 3 rfl, HF.out.cellN 0 rfl 4 rfl, HF.out.cellN 0 rfl 5 rfl, HF.out.cellN 0 rfl 6 rfl, HF.out.cellN 0 rfl 7 rfl, HF.out.cellN 0 rfl 8 rfl, HF.out.cellN 0 rfl 9 rfl⟩ (fun hHeld => ?_)
        clear hK K
        refine pure_ (i := 13) (N := (some 6)) (v := ?_) (a' := ?_) #[true, true, true, true, true, true, true, true, true, true, true, true, true, true] rfl rfl (by kernel_rfl) (fun _ _ _ h => h) (Or.inl ⟨by rfl, ?_⟩) ?_ ?_
        rotate_left
        · intro w'
          go_simp
          with_reducible rfl
        rotate_left
        · simp only [Act.put, List.setIfInBounds_toArray, List.set_cons_zero, List.set_cons_succ]
          rfl
        exact hcont (g1, g2) _ ⟨hg1, hg2, hg12, HF.out⟩
    rintro ⟨g1, g2⟩ W ⟨hg1, hg2, hg12, hF_⟩
    clear hHeld
    refine norm_ (a' := ?_) ?_ ?_
    rotate_left
    · show putAll _ _ = _
      simp only [putAll, Act.put, List.setIfInBounds_toArray, List.set_cons_zero, List.set_cons_succ]
      rfl
    refine done_ (by kernel_rfl) ?_
    have HF := Lib.hid hF_
    clear hF_
    obtain ⟨W0, hW0⟩ : ∃ X, X = W := ⟨_, rfl⟩
    subst hW0
    have HF0 := HF
    clear HF
    go_wp2
    go_loopg [7, 8] vs.length (fun gg s7 s8 wr => ∃ (i : Nat) (v_ : Value) (rs : List QC), i + gg = vs.length ∧ s8 = .int .i64 i ∧ v_ = s7 ∧ rs.length ≤ i ∧ i ≤ rs.length ∧ Hid (OwnV wr W0.heap.size v_ rs) ∧ Hid (rs.map QC.val = vs.take i) ∧ Hid (Below W0.heap.size W0 wr))
    case atStart => exact ⟨0, _, [], by omega, rfl, rfl, Nat.le_refl _, Nat.le_refl _, OwnV.nil _ _, rfl, Below.refl _ _⟩
    case round =>
      obtain ⟨i, v_, rs, hg, rfl, rfl, r1, r2, HO, HE, HB⟩ := hrel
      have HF := Lib.hid (HF0.out.below HB.out)
      by_cases hlt : i < vs.length
      · have hltz : (i : Int) < (vs.length : Int) := by omega
        have HS := Lib.hid (show vs.take (i + 1) = vs.take i ++ [vs[i]] from List.take_succ_eq_append_getElem hlt)
        obtain ⟨ad, BB, cc, DD, dd, rfl, j1, j2, j3, hq⟩ := row_rat KR.out i hlt
        have gm := GV.out vs[i] (List.getElem_mem hlt)
        have wm := HVw.out vs[i] (List.getElem_mem hlt)
        generalize vs[i] = m at *
        obtain ⟨⟨sb, us⟩, es⟩ := m
        have gn := gm.mn
        have gd := gm.md
        dsimp only at gn gd
        have a1 := cell_below HF.out.bel j1
        have a2 := cell_below HF.out.bel j2
        have a3 := cell_below HF.out.bel j3
        have hM := Lib.hid (mem_Rat sb BB cc us DD dd es wr ((hq.num gm).below HF.out.bel) (by omega) ((hq.den gm).below HF.out.bel) (by omega))
        clear j1 j2 j3 hq gm
        dsimp only at *
        go_wp2_with fail
        refine hM.out.mono ?_
        rintro e V1 ⟨A4, c4, B4, d4, rfl, q1, q2, q3⟩
        have hbe := (Below.refl _ V1).alloc (Nat.le_refl _) (.cells #[.bool sb, .slice A4 us.length c4, .slice B4 es.length d4] 31)
        have hQ : QC.At (V1.alloc (.cells #[.bool sb, .slice A4 us.length c4, .slice B4 es.length d4] 31)) ⟨sb, A4, c4, us, B4, d4, es⟩ := ⟨⟨q1.cap, q2.cap, q1.row.keep (KeepU.below hbe), q2.row.keep (KeepU.below hbe)⟩, by show us.length ≤ _; omega, by show es.length ≤ _; omega⟩
        have hB1 := HB.out.trans (q3.mono HB.out.size)
        obtain ⟨v', w', hrun, hO', hS'⟩ := pushQ (t := 24) (ty := 24) (r := ⟨sb, A4, c4, us, B4, d4, es⟩) Try.underlying24 ((HO.out.below q3).below hbe) hQ (Own.mk (w := V1) [.bool sb, .slice A4 us.length c4, .slice B4 es.length d4] 31) (by omega) (Nat.le_trans hB1.size hbe.size)
        have HP := Lib.hid hrun
        have HO2 := Lib.hid hO'
        have HB2 := Lib.hid ((hB1.alloc hB1.size (.cells #[.bool sb, .slice A4 us.length c4, .slice B4 es.length d4] 31)).trans hS'.below)
        have HE2 := Lib.hid (show (rs ++ [QC.mk sb A4 c4 us B4 d4 es]).map QC.val = vs.take (i + 1) by rw [List.map_append, HE.out, HS.out]; rfl)
        have rl : (rs ++ [QC.mk sb A4 c4 us B4 d4 es]).length = rs.length + 1 := by simp
        clear hrun hO' hS' hbe hQ hB1 q1 q2 q3 hM HS HE HO HF a1 a2 a3
        go_wp2_with (refine pushL_ rfl rfl rfl rfl HP.out ?_)
        go_roundg (vs.length - (i + 1))
        case measure => omega
        case rel => exact ⟨i + 1, v', _, by omega, by go_num, rfl, by omega, by omega, HO2, HE2, HB2⟩
      · have hltz : ¬ (i : Int) < (vs.length : Int) := by omega
        have hrl : rs.length = vs.length := by omega
        have HE2 := Lib.hid (show rs.map QC.val = vs by rw [HE.out, List.take_of_length_le (by omega)])
        obtain ⟨go, cap, rfl, hgo⟩ := HO.out.blk (by omega)
        have hcap := HO.out.1.block.2.elim fun cur h => h.2.1
        have hkr : k < rs.length := by omega
        have HOn := Lib.hid (show OwnV wr W0.heap.size (.slice (some ⟨go, 0, none⟩) vs.length cap) rs by rw [← hrl]; exact HO.out)
        rw [hrl] at hcap ⊢
        have hgW1 := HF0.out.ltN 1 rfl
        have hgW2 := HF0.out.ltN 2 rfl
        have hgW0 := HF0.out.ltN 0 rfl
        clear HE HO HB HF0
        go_wp2_with fail
        replace HOn := Lib.hid (HOn.out.below (Below.drew (Below.refl _ _)))
        have HF_ := Lib.hid HF.out.drew
        clear HF
        have HF := HF_
        clear HF_
        refine start_ (n := 11) (S := fun w' => w'.cell? ⟨g2, 0, none⟩ = some (.slice A2 g.length c2) ∧ w'.cell? ⟨g2, 1, none⟩ = some (.bool s2) ∧ w'.cell? ⟨g2, 2, none⟩ = some (.slice A3 x2.length c3) ∧ w'.cell? ⟨g2, 3, none⟩ = some (.slice B3 y2.length d3)) (ds := [10]) #[false, false, false, false, false, false, false, false, false, false, false] (by kernel_rfl) rfl rfl ⟨HF.out.cellN 2 rfl 0 rfl, HF.out.cellN 2 rfl 1 rfl, HF.out.cellN 2 rfl 2 rfl, HF.out.cellN 2 rfl 3 rfl⟩ (fun hHeld => ?_)
        generalize World.drew _ = W at *
        refine pure_ (i := 0) (N := (some 55)) (v := ?_) (a' := ?_) #[true, false, false, false, false, false, false, false, false, false, false] rfl rfl (by kernel_rfl) (fun _ _ _ h => h) (Or.inl ⟨by rfl, ?_⟩) ?_ ?_
        rotate_left
        · intro w'
          go_simp
          with_reducible rfl
        rotate_left
        · simp only [Act.put, List.setIfInBounds_toArray, List.set_cons_zero, List.set_cons_succ]
          rfl
        refine pure_ (i := 1) (N := (some 56)) (v := ?_) (a' := ?_) #[true, true, false, false, false, false, false, false, false, false, false] rfl rfl (by kernel_rfl) (fun _ _ _ h => h) (Or.inl ⟨by rfl, ?_⟩) ?_ ?_
        rotate_left
        · intro w'
          go_simp
          with_reducible rfl
        rotate_left
        · simp only [Act.put, List.setIfInBounds_toArray, List.set_cons_zero, List.set_cons_succ]
          rfl
        refine pure_ (i := 2) (N := (some 57)) (v := ?_) (a' := ?_) #[true, true, true, false, false, false, false, false, false, false, false] rfl rfl (by kernel_rfl) (fun _ _ _ h => h) (Or.inl ⟨by rfl, ?_⟩) ?_ ?_
        rotate_left
        · intro w'
          go_simp
          with_reducible rfl
        rotate_left
        · simp only [Act.put, List.setIfInBounds_toArray, List.set_cons_zero, List.set_cons_succ]
          rfl
        refine pure_ (i := 4) (N := (some 59)) (v := ?_) (a' := ?_) #[true, true, true, false, true, false, false, false, false, false, false] rfl rfl (by kernel_rfl) (fun _ _ _ h => h) (Or.inl ⟨by rfl, ?_⟩) ?_ ?_
        rotate_left
        · intro w'
          go_simp
          with_reducible rfl
        rotate_left
        · simp only [Act.put, List.setIfInBounds_toArray, List.set_cons_zero, List.set_cons_succ]
          rfl
        refine pure_ (i := 6) (N := (some 61)) (v := ?_) (a' := ?_) #[true, true, true, false, true, false, true, false, false, false, false] rfl rfl (by kernel_rfl) (fun _ _ _ h => h) (Or.inl ⟨by rfl, ?_⟩) ?_ ?_
        rotate_left
        · intro w'
          go_simp
          with_reducible rfl
        rotate_left
        · simp only [Act.put, List.setIfInBounds_toArray, List.set_cons_zero, List.set_cons_succ]
          rfl
        refine take_ (i := 3) (N := (some 58)) (v := ?_) (a' := ?_) #[true, true, true, true, true, false, true, false, false, false, false] rfl rfl (by kernel_rfl) (fun _ _ _ h => h) (Or.inl ⟨by rfl, ?_⟩) hHeld ?_ ?_
        rotate_left
        · rintro w' ⟨s0, s1, s2, s3⟩
          go_simp
          with_reducible rfl
        rotate_left
        · simp only [Act.put, List.setIfInBounds_toArray, List.set_cons_zero, List.set_cons_succ]
          rfl
        refine take_ (i := 7) (N := (some 62)) (v := ?_) (a' := ?_) #[true, true, true, true, true, false, true, true, false, false, false] rfl rfl (by kernel_rfl) (fun _ _ _ h => h) (Or.inl ⟨by rfl, ?_⟩) hHeld ?_ ?_
        rotate_left
        · rintro w' ⟨s0, s1, s2, s3⟩
          go_simp
          with_reducible rfl
        rotate_left
        · simp only [Act.put, List.setIfInBounds_toArray, List.set_cons_zero, List.set_cons_succ]
          rfl
        refine one_ (i := 5) (N := (some 60)) #[true, true, true, true, true, true, true, true, false, false, false] rfl rfl (by kernel_rfl) (by decide) (fun K hK => ?_)
        refine goes_ Try.func17 (by kernel_rfl) rfl #[.slice A2 g.length c2, .slice E vs.length j] (by rfl) rfl rfl (by (try simp only [List.map_toArray, List.map_cons, List.map_nil]); first | done | rfl) ?_
        refine (hVg.out W HF.out.bel).mono ?_
        rintro e W1 ⟨A4, c4, B4, d4, rfl, q1, q2, q3⟩
        refine ⟨_, rfl, ?_⟩
        replace HF := Lib.hid (HF.out.below q3)
        replace HOn := Lib.hid (HOn.out.below q3)
        have Q4 := Lib.hid (InQ.mk q1 q2)
        clear q1 q2 q3 hVg
        refine hK.out _ _ ⟨HF.out.cellN 2 rfl 0 rfl, HF.out.cellN 2 rfl 1 rfl, HF.out.cellN 2 rfl 2 rfl, HF.out.cellN 2 rfl 3 rfl⟩ (fun hHeld => ?_)
        clear hK K
        refine norm_ (a' := ?_) ?_ ?_
        rotate_left
        · show Act.put _ (some 60) _ = _
          simp only [Act.put, List.setIfInBounds_toArray, List.set_cons_zero, List.set_cons_succ]
          rfl
        refine one_ (i := 8) (N := (some 63)) #[true, true, true, true, true, true, true, true, true, false, false] rfl rfl (by kernel_rfl) (by decide) (fun K hK => ?_)
        refine goes_ Try.func30 (by kernel_rfl) rfl #[.agg #[.bool (decide (X.num < 0)), .slice A4 (dg X.num.natAbs).length c4, .slice B4 (dg X.den).length d4], .agg #[.bool s2, .slice A3 x2.length c3, .slice B3 y2.length d3]] (by rfl) rfl rfl (by (try simp only [List.map_toArray, List.map_cons, List.map_nil]); first | done | rfl) ?_
        refine (hT.out W1 HF.out.bel A4 c4 B4 d4 Q4.out).mono ?_
        rintro e W2 ⟨A5, c5, B5, d5, rfl, q1, q2, q3⟩
        refine ⟨_, rfl, ?_⟩
        replace HF := Lib.hid (HF.out.below q3)
        replace HOn := Lib.hid (HOn.out.below q3)
        have Q5 := Lib.hid (InQ.mk q1 q2)
        clear q1 q2 q3 hT Q4
        refine hK.out _ _ ⟨HF.out.cellN 2 rfl 0 rfl, HF.out.cellN 2 rfl 1 rfl, HF.out.cellN 2 rfl 2 rfl, HF.out.cellN 2 rfl 3 rfl⟩ (fun hHeld => ?_)
        clear hK K
        refine norm_ (a' := ?_) ?_ ?_
        rotate_left
        · show Act.put _ (some 63) _ = _
          simp only [Act.put, List.setIfInBounds_toArray, List.set_cons_zero, List.set_cons_succ]
          rfl
        refine pure_ (i := 9) (N := (some 64)) (v := ?_) (a' := ?_) #[true, true, true, true, true, true, true, true, true, true, false] rfl rfl (by kernel_rfl) (fun _ _ _ h => h) (Or.inl ⟨by rfl, ?_⟩) ?_ ?_
        rotate_left
        · intro w'
          go_simp
          with_reducible rfl
        rotate_left
        · simp only [Act.put, List.setIfInBounds_toArray, List.set_cons_zero, List.set_cons_succ]
          rfl
        refine last_ (i := 10) (N := none) #[true, true, true, true, true, true, true, true, true, true, true] rfl rfl (by kernel_rfl) (by decide) (fun K hK => ?_)
        have hf0 := HOn.out.frozen hrl.symm (k * 3)
        have hf1 := HOn.out.frozen hrl.symm (k * 3 + 1)
        have hf2 := HOn.out.frozen hrl.symm (k * 3 + 2)
        obtain ⟨ok, hok⟩ : ∃ o, o = rs[k] := ⟨_, rfl⟩
        have hd0 := HOn.out.cell hrl.symm k hkr 0 (u := .bool ok.s) (by rw [← hok]; rfl)
        have hd1 := HOn.out.cell hrl.symm k hkr 1 (u := .slice ok.A ok.xs.length ok.c) (by rw [← hok]; rfl)
        have hd2 := HOn.out.cell hrl.symm k hkr 2 (u := .slice ok.B ok.ys.length ok.d) (by rw [← hok]; rfl)
        rw [Nat.add_zero] at hd0
        refine skip_ (w1 := ?_) (by rfl) rfl ?_ ?_
        rotate_left
        · go_simp
          rfl
        have lt := mu_len t
        have hQ5 : QC.At W2 ⟨decide (t.num < 0), A5, c5, dg t.num.natAbs, B5, d5, dg t.den⟩ := ⟨⟨Q5.out.num.cap, Q5.out.den.cap, Q5.out.num.row, Q5.out.den.row⟩, by show (dg t.num.natAbs).length ≤ _; omega, by show (dg t.den).length ≤ _; omega⟩
        have HO3 := Lib.hid (HOn.out.put hrl.symm k hkr _ hQ5)
        replace HF := Lib.hid (((HF.out.far (p := ⟨go, k * 3, none⟩) (by show w.heap.size ≤ go; omega) (by simp; omega) (.bool (decide (t.num < 0)))).far (p := ⟨go, k * 3 + 1, none⟩) (by show w.heap.size ≤ go; omega) (by simp; omega) (.slice A5 (dg t.num.natAbs).length c5)).far (p := ⟨go, k * 3 + 2, none⟩) (by show w.heap.size ≤ go; omega) (by simp; omega) (.slice B5 (dg t.den).length d5))
        clear lt hQ5 hf0 hf1 hf2 hd0 hd1 hd2 hok HOn Q5
        refine hK.out _ _ ?_
        clear hK K
        refine done_ (by kernel_rfl) ?_
        have HSet := Lib.hid (show (rs.set k (QC.mk (decide (t.num < 0)) A5 c5 (dg t.num.natAbs) B5 d5 (dg t.den))).map QC.val = vs.set k (canD t) by rw [List.map_set, HE2.out]; rfl)
        have hsl : (rs.set k (QC.mk (decide (t.num < 0)) A5 c5 (dg t.num.natAbs) B5 d5 (dg t.den))).length = vs.length := by rw [List.length_set]; exact hrl
        generalize rs.set k (QC.mk (decide (t.num < 0)) A5 c5 (dg t.num.natAbs) B5 d5 (dg t.den)) = rs2 at *
        have b0 := HF.out.cellN 1 rfl 0 rfl
        have b1 := HF.out.cellN 1 rfl 1 rfl
        have b2 := HF.out.cellN 1 rfl 2 rfl
        have b3 := HF.out.cellN 1 rfl 3 rfl
        have e0 := HF.out.cellN 2 rfl 0 rfl
        have e1 := HF.out.cellN 2 rfl 1 rfl
        have e2 := HF.out.cellN 2 rfl 2 rfl
        have e3 := HF.out.cellN 2 rfl 3 rfl
        generalize World.setCell _ _ _ = W3 at HF HO3 b0 b1 b2 b3 e0 e1 e2 e3 ⊢
        clear HE2 hrl hkr r1 r2
        go_wp2_with fail
        refine (hSub.out _ HF.out.bel).mono ?_
        rintro e V2 ⟨E6, e6, A6, c6, B6, d6, rfl, h1, h3, h2⟩
        replace HF := Lib.hid (HF.out.below h2)
        replace HO3 := Lib.hid (HO3.out.below h2)
        have Q6 := Lib.hid h1.fin'
        have P6 := Lib.hid h3
        clear h1 h2 h3 hSub b0 b1 b2 b3 e0 e1 e2 e3
        have hw2 := HF.out.ltN 0 rfl
        have hal := Lib.hid ((Below.refl _ V2).alloc (Nat.le_refl _) (.cells #[.slice E6 s.length e6, .bool (decide (sc.num < 0)), .slice A6 (dg sc.num.natAbs).length c6, .slice B6 (dg sc.den).length d6] 60))
        replace HF := Lib.hid (HF.out.box [.slice E6 s.length e6, .bool (decide (sc.num < 0)), .slice A6 (dg sc.num.natAbs).length c6, .slice B6 (dg sc.den).length d6] 60)
        replace Q6 := Lib.hid (Q6.out.below hal.out)
        replace P6 := Lib.hid (P6.out.below hal.out)
        replace HO3 := Lib.hid (HO3.out.below hal.out)
        clear hal
        go_wp2_with fail
        obtain ⟨g3, hg3⟩ : ∃ g, g = V2.heap.size := ⟨_, rfl⟩
        rw [← hg3] at HF hw2 ⊢
        generalize V2.alloc _ = Wb at HF Q6 P6 HO3 ⊢
        clear hg3
        obtain ⟨Ao, co', hoe, hocap, horow⟩ := HO3.out.row
        rw [hsl] at hocap hoe
        cases hoe
        rw [HSet.out] at horow
        have HRo := Lib.hid horow
        clear horow HO3 HSet hsl
        have HFb := HF
        clear HF
        have hb0 := HFb.out.cellN 0 rfl 0 rfl
        have hb1 := HFb.out.cellN 0 rfl 1 rfl
        have hb2 := HFb.out.cellN 0 rfl 2 rfl
        have hb3 := HFb.out.cellN 0 rfl 3 rfl
        have HF : Hid (Fr Wb Wb []) := Fr.refl Wb
        have HF_ := Lib.hid HF.out.drew
        clear HF
        have HF := HF_
        clear HF_
        refine start_ (n := 9) (S := fun w' => w'.cell? (⟨g3, 0, none⟩) = some (.slice E6 s.length e6) ∧ w'.cell? (⟨g3, 1, none⟩) = some (.bool (decide (sc.num < 0))) ∧ w'.cell? (⟨g3, 2, none⟩) = some (.slice A6 (dg sc.num.natAbs).length c6) ∧ w'.cell? (⟨g3, 3, none⟩) = some (.slice B6 (dg sc.den).length d6)) (ds := []) #[false, false, false, false, false, false, false, false, false] (by kernel_rfl) rfl rfl ⟨cell_below HF.out.bel hb0, cell_below HF.out.bel hb1, cell_below HF.out.bel hb2, cell_below HF.out.bel hb3⟩ (fun hHeld => ?_)
        generalize World.drew _ = W at *
        refine pure_ (i := 0) (N := (some 69)) (v := ?_) (a' := ?_) #[true, false, false, false, false, false, false, false, false] rfl rfl (by kernel_rfl) (fun _ _ _ h => h) (Or.inl ⟨by rfl, ?_⟩) ?_ ?_
        rotate_left
        · intro w'
          go_simp
          with_reducible rfl
        rotate_left
        · simp only [Act.put, List.setIfInBounds_toArray, List.set_cons_zero, List.set_cons_succ]
          rfl
        refine pure_ (i := 2) (N := (some 71)) (v := ?_) (a' := ?_) #[true, false, true, false, false, false, false, false, false] rfl rfl (by kernel_rfl) (fun _ _ _ h => h) (Or.inl ⟨by rfl, ?_⟩) ?_ ?_
        rotate_left
        · intro w'
          go_simp
          with_reducible rfl
        rotate_left
        · simp only [Act.put, List.setIfInBounds_toArray, List.set_cons_zero, List.set_cons_succ]
          rfl
        refine pure_ (i := 4) (N := (some 73)) (v := ?_) (a' := ?_) #[true, false, true, false, true, false, false, false, false] rfl rfl (by kernel_rfl) (fun _ _ _ h => h) (Or.inl ⟨by rfl, ?_⟩) ?_ ?_
        rotate_left
        · intro w'
          go_simp
          with_reducible rfl
        rotate_left
        · simp only [Act.put, List.setIfInBounds_toArray, List.set_cons_zero, List.set_cons_succ]
          rfl
        refine take_ (i := 1) (N := (some 70)) (v := ?_) (a' := ?_) #[true, true, true, false, true, false, false, false, false] rfl rfl (by kernel_rfl) (fun _ _ _ h => h) (Or.inl ⟨by rfl, ?_⟩) hHeld ?_ ?_
        rotate_left
        · rintro w' ⟨s0, s1, s2, s3⟩
          go_simp
          with_reducible rfl
        rotate_left
        · simp only [Act.put, List.setIfInBounds_toArray, List.set_cons_zero, List.set_cons_succ]
          rfl
        refine take_ (i := 5) (N := (some 74)) (v := ?_) (a' := ?_) #[true, true, true, false, true, true, false, false, false] rfl rfl (by kernel_rfl) (fun _ _ _ h => h) (Or.inl ⟨by rfl, ?_⟩) hHeld ?_ ?_
        rotate_left
        · rintro w' ⟨s0, s1, s2, s3⟩
          go_simp
          with_reducible rfl
        rotate_left
        · simp only [Act.put, List.setIfInBounds_toArray, List.set_cons_zero, List.set_cons_succ]
          rfl
        refine join_ (σ := Nat × (Option Addr × Nat × Option Addr × Nat) × Option Addr × Nat × Option Addr × Nat) 0 #[true, true, true, true, true, true, true, true, true] (fun ⟨g4, ⟨A7, c7, B7, d7⟩, A8, c8, B8, d8⟩ => [(72, .agg #[.bool (decide (Z.num < 0)), .slice A7 (dg Z.num.natAbs).length c7, .slice B7 (dg Z.den).length d7]), (75, .agg #[.bool (decide (L.num < 0)), .slice A8 (dg L.num.natAbs).length c8, .slice B8 (dg L.den).length d8]), (10, .pointer (some ⟨g4, 0, none⟩))]) (fun ⟨g4, ⟨A7, c7, B7, d7⟩, A8, c8, B8, d8⟩ W' => Fr Wb W' [(g4, [.bool (decide (L.num < 0)), .slice A8 (dg L.num.natAbs).length c8, .slice B8 (dg L.den).length d8])] ∧ InQ W' A8 c8 B8 d8 L) ?hc1 ?hm1
        case hm1 =>
          intro hcont
          refine two_ (i := 3) (j := 7) (Ni := (some 72)) (Nj := (some 10)) #[true, true, true, true, true, true, false, false, false] #[true, true, true, false, true, true, false, true, false] rfl rfl rfl rfl (by kernel_rfl) (by decide) (by decide) (fun K hK => ?_) (fun K hK => ?_)
          · refine goes_ Try.func17 (by kernel_rfl) rfl #[.slice E6 s.length e6, .slice E vs.length j] (by rfl) rfl rfl (by (try simp only [List.map_toArray, List.map_cons, List.map_nil]); first | done | rfl) ?_
            refine (hVs.out W (HFb.out.below HF.out.bel).bel E6 e6 (Q6.out.below HF.out.bel)).mono ?_
            rintro e W1 ⟨A7, c7, B7, d7, rfl, q1, q2, q3⟩
            refine ⟨_, rfl, ?_⟩
            replace HF := Lib.hid (HF.out.below q3)
            have P7 := Lib.hid (InQ.mk q1 q2)
            clear q1 q2 q3 hVs
            refine hK.out _ _ ⟨cell_below HF.out.bel hb0, cell_below HF.out.bel hb1, cell_below HF.out.bel hb2, cell_below HF.out.bel hb3⟩ (fun hHeld => ?_)
            clear hK K
            refine norm_ (a' := ?_) ?_ ?_
            rotate_left
            · show Act.put _ (some 72) _ = _
              simp only [Act.put, List.setIfInBounds_toArray, List.set_cons_zero, List.set_cons_succ]
              rfl
            refine two_ (i := 6) (j := 7) (Ni := (some 75)) (Nj := (some 10)) #[true, true, true, true, true, true, true, false, false] #[true, true, true, true, true, true, false, true, false] rfl rfl rfl rfl (by kernel_rfl) (by decide) (by decide) (fun K hK => ?_) (fun K hK => ?_)
            · refine goes_ Try.func30 (by kernel_rfl) rfl #[.agg #[.bool (decide (Z.num < 0)), .slice A7 (dg Z.num.natAbs).length c7, .slice B7 (dg Z.den).length d7], .agg #[.bool (decide (sc.num < 0)), .slice A6 (dg sc.num.natAbs).length c6, .slice B6 (dg sc.den).length d6]] (by rfl) rfl rfl (by (try simp only [List.map_toArray, List.map_cons, List.map_nil]); first | done | rfl) ?_
              refine (hL.out W1 A7 c7 B7 d7 A6 c6 B6 d6 P7.out (P6.out.below HF.out.bel)).mono ?_
              rintro e W2 ⟨A8, c8, B8, d8, rfl, q1, q2, q3⟩
              refine ⟨_, rfl, ?_⟩
              replace HF := Lib.hid (HF.out.below q3)
              have P8 := Lib.hid (InQ.mk q1 q2)
              clear q1 q2 q3 hL P7
              refine hK.out _ _ ⟨cell_below HF.out.bel hb0, cell_below HF.out.bel hb1, cell_below HF.out.bel hb2, cell_below HF.out.bel hb3⟩ (fun hHeld => ?_)
              clear hK K
              refine norm_ (a' := ?_) ?_ ?_
              rotate_left
              · show Act.put _ (some 75) _ = _
                simp only [Act.put, List.setIfInBounds_toArray, List.set_cons_zero, List.set_cons_succ]
                rfl
              refine one_ (i := 7) (N := (some 10)) #[true, true, true, true, true, true, true, true, false] rfl rfl (by kernel_rfl) (by decide) (fun K hK => ?_)
              refine value_ (v := ?_) (w1 := ?_) (by rfl) rfl ?_ ?_
              rotate_left
              rotate_left
              · go_simp
                first | rfl | (refine ⟨?_, ?_⟩ <;> rfl)
              have hgw : Wb.heap.size ≤ W2.heap.size := HF.out.size
              have hbe := Lib.hid ((Below.refl _ W2).alloc (Nat.le_refl _) (.cells #[.bool false, .slice none 0 0, .slice none 0 0] 31))
              try replace P7 := Lib.hid (P7.out.below hbe.out)
              try replace P8 := Lib.hid (P8.out.below hbe.out)
              replace HF := Lib.hid (HF.out.boxEnd [.bool false, .slice none 0 0, .slice none 0 0] 31)
              refine hK.out _ _ ⟨cell_below HF.out.bel hb0, cell_below HF.out.bel hb1, cell_below HF.out.bel hb2, cell_below HF.out.bel hb3⟩ (fun hHeld => ?_)
              clear hK K
              refine norm_ (a' := ?_) ?_ ?_
              rotate_left
              · show Act.put _ (some 10) _ = _
                simp only [Act.put, List.setIfInBounds_toArray, List.set_cons_zero, List.set_cons_succ]
                rfl
              obtain ⟨g4, hg0⟩ : ∃ g0, g0 = W2.heap.size := ⟨_, rfl⟩
              obtain ⟨W3, hV⟩ : ∃ X, X = W2.alloc (.cells #[.bool false, .slice none 0 0, .slice none 0 0] 31) := ⟨_, rfl⟩
              rw [← hg0] at HF hgw ⊢
              rw [← hV] at HF ⊢
              try rw [← hV] at P7
              try rw [← hV] at P8
              clear hg0 hV hbe
              refine one_ (i := 8) (N := none) #[true, true, true, true, true, true, true, true, true] rfl rfl (by kernel_rfl) (by decide) (fun K hK => ?_)
              have hf0 := HF.out.frozenN 0 rfl 0
              have hf1 := HF.out.frozenN 0 rfl 1
              have hf2 := HF.out.frozenN 0 rfl 2
              have hd0 := HF.out.cellN 0 rfl 0 rfl
              have hd1 := HF.out.cellN 0 rfl 1 rfl
              have hd2 := HF.out.cellN 0 rfl 2 rfl
              refine skip_ (w1 := ?_) (by rfl) rfl ?_ ?_
              rotate_left
              · go_simp
                rfl
              replace P8 := Lib.hid (P8.out.put3 (HF.out.ownN 0 rfl) (by simp) (a := .bool (decide (L.num < 0))) (by simp) (b := .slice A8 (dg L.num.natAbs).length c8) (by simp) (.slice B8 (dg L.den).length d8))
              replace HF := Lib.hid (HF.out.put3 0 rfl hgw (by simp) (.bool (decide (L.num < 0))) (.slice A8 (dg L.num.natAbs).length c8) (.slice B8 (dg L.den).length d8))
              clear hf0 hf1 hf2 hd0 hd1 hd2
              refine hK.out _ _ ⟨cell_below HF.out.bel hb0, cell_below HF.out.bel hb1, cell_below HF.out.bel hb2, cell_below HF.out.bel hb3⟩ (fun hHeld => ?_)
              clear hK K
              exact hcont (g4, (A7, c7, B7, d7), A8, c8, B8, d8) _ ⟨HF.out, P8.out⟩
            · refine value_ (v := ?_) (w1 := ?_) (by rfl) rfl ?_ ?_
              rotate_left
              rotate_left
              · go_simp
                first | rfl | (refine ⟨?_, ?_⟩ <;> rfl)
              have hgw : Wb.heap.size ≤ W1.heap.size := HF.out.size
              have hbe := Lib.hid ((Below.refl _ W1).alloc (Nat.le_refl _) (.cells #[.bool false, .slice none 0 0, .slice none 0 0] 31))
              try replace P7 := Lib.hid (P7.out.below hbe.out)
              try replace P8 := Lib.hid (P8.out.below hbe.out)
              replace HF := Lib.hid (HF.out.boxEnd [.bool false, .slice none 0 0, .slice none 0 0] 31)
              refine hK.out _ _ ⟨cell_below HF.out.bel hb0, cell_below HF.out.bel hb1, cell_below HF.out.bel hb2, cell_below HF.out.bel hb3⟩ (fun hHeld => ?_)
              clear hK K
              refine norm_ (a' := ?_) ?_ ?_
              rotate_left
              · show Act.put _ (some 10) _ = _
                simp only [Act.put, List.setIfInBounds_toArray, List.set_cons_zero, List.set_cons_succ]
                rfl
              obtain ⟨g4, hg0⟩ : ∃ g0, g0 = W1.heap.size := ⟨_, rfl⟩
              obtain ⟨W4, hV⟩ : ∃ X, X = W1.alloc (.cells #[.bool false, .slice none 0 0, .slice none 0 0] 31) := ⟨_, rfl⟩
              rw [← hg0] at HF hgw ⊢
              rw [← hV] at HF ⊢
              try rw [← hV] at P7
              try rw [← hV] at P8
              clear hg0 hV hbe
              refine one_ (i := 6) (N := (some 75)) #[true, true, true, true, true, true, true, true, false] rfl rfl (by kernel_rfl) (by decide) (fun K hK => ?_)
              refine goes_ Try.func30 (by kernel_rfl) rfl #[.agg #[.bool (decide (Z.num < 0)), .slice A7 (dg Z.num.natAbs).length c7, .slice B7 (dg Z.den).length d7], .agg #[.bool (decide (sc.num < 0)), .slice A6 (dg sc.num.natAbs).length c6, .slice B6 (dg sc.den).length d6]] (by rfl) rfl rfl (by (try simp only [List.map_toArray, List.map_cons, List.map_nil]); first | done | rfl) ?_
              refine (hL.out W4 A7 c7 B7 d7 A6 c6 B6 d6 P7.out (P6.out.below HF.out.bel)).mono ?_
              rintro e W5 ⟨A8, c8, B8, d8, rfl, q1, q2, q3⟩
              refine ⟨_, rfl, ?_⟩
              replace HF := Lib.hid (HF.out.below q3)
              have P8 := Lib.hid (InQ.mk q1 q2)
              clear q1 q2 q3 hL P7
              refine hK.out _ _ ⟨cell_below HF.out.bel hb0, cell_below HF.out.bel hb1, cell_below HF.out.bel hb2, cell_below HF.out.bel hb3⟩ (fun hHeld => ?_)
              clear hK K
              refine norm_ (a' := ?_) ?_ ?_
              rotate_left
              · show Act.put _ (some 75) _ = _
                simp only [Act.put, List.setIfInBounds_toArray, List.set_cons_zero, List.set_cons_succ]
                rfl
              refine one_ (i := 8) (N := none) #[true, true, true, true, true, true, true, true, true] rfl rfl (by kernel_rfl) (by decide) (fun K hK => ?_)
              have hf0 := HF.out.frozenN 0 rfl 0
              have hf1 := HF.out.frozenN 0 rfl 1
              have hf2 := HF.out.frozenN 0 rfl 2
              have hd0 := HF.out.cellN 0 rfl 0 rfl
              have hd1 := HF.out.cellN 0 rfl 1 rfl
              have hd2 := HF.out.cellN 0 rfl 2 rfl
              refine skip_ (w1 := ?_) (by rfl) rfl ?_ ?_
              rotate_left
              · go_simp
                rfl
              replace P8 := Lib.hid (P8.out.put3 (HF.out.ownN 0 rfl) (by simp) (a := .bool (decide (L.num < 0))) (by simp) (b := .slice A8 (dg L.num.natAbs).length c8) (by simp) (.slice B8 (dg L.den).length d8))
              replace HF := Lib.hid (HF.out.put3 0 rfl hgw (by simp) (.bool (decide (L.num < 0))) (.slice A8 (dg L.num.natAbs).length c8) (.slice B8 (dg L.den).length d8))
              clear hf0 hf1 hf2 hd0 hd1 hd2
              refine hK.out _ _ ⟨cell_below HF.out.bel hb0, cell_below HF.out.bel hb1, cell_below HF.out.bel hb2, cell_below HF.out.bel hb3⟩ (fun hHeld => ?_)
              clear hK K
              exact hcont (g4, (A7, c7, B7, d7), A8, c8, B8, d8) _ ⟨HF.out, P8.out⟩
          · refine value_ (v := ?_) (w1 := ?_) (by rfl) rfl ?_ ?_
            rotate_left
            rotate_left
            · go_simp
              first | rfl | (refine ⟨?_, ?_⟩ <;> rfl)
            have hgw : Wb.heap.size ≤ W.heap.size := HF.out.size
            have hbe := Lib.hid ((Below.refl _ W).alloc (Nat.le_refl _) (.cells #[.bool false, .slice none 0 0, .slice none 0 0] 31))
            try replace P7 := Lib.hid (P7.out.below hbe.out)
            try replace P8 := Lib.hid (P8.out.below hbe.out)
            replace HF := Lib.hid (HF.out.boxEnd [.bool false, .slice none 0 0, .slice none 0 0] 31)
            refine hK.out _ _ ⟨cell_below HF.out.bel hb0, cell_below HF.out.bel hb1, cell_below HF.out.bel hb2, cell_below HF.out.bel hb3⟩ (fun hHeld => ?_)
            clear hK K
            refine norm_ (a' := ?_) ?_ ?_
            rotate_left
            · show Act.put _ (some 10) _ = _
              simp only [Act.put, List.setIfInBounds_toArray, List.set_cons_zero, List.set_cons_succ]
              rfl
            obtain ⟨g4, hg0⟩ : ∃ g0, g0 = W.heap.size := ⟨_, rfl⟩
            obtain ⟨W6, hV⟩ : ∃ X, X = W.alloc (.cells #[.bool false, .slice none 0 0, .slice none 0 0] 31) := ⟨_, rfl⟩
            rw [← hg0] at HF hgw ⊢
            rw [← hV] at HF ⊢
            try rw [← hV] at P7
            try rw [← hV] at P8
            clear hg0 hV hbe
            refine one_ (i := 3) (N := (some 72)) #[true, true, true, true, true, true, false, true, false] rfl rfl (by kernel_rfl) (by decide) (fun K hK => ?_)
            refine goes_ Try.func17 (by kernel_rfl) rfl #[.slice E6 s.length e6, .slice E vs.length j] (by rfl) rfl rfl (by (try simp only [List.map_toArray, List.map_cons, List.map_nil]); first | done | rfl) ?_
            refine (hVs.out W6 (HFb.out.below HF.out.bel).bel E6 e6 (Q6.out.below HF.out.bel)).mono ?_
            rintro e W7 ⟨A7, c7, B7, d7, rfl, q1, q2, q3⟩
            refine ⟨_, rfl, ?_⟩
            replace HF := Lib.hid (HF.out.below q3)
            have P7 := Lib.hid (InQ.mk q1 q2)
            clear q1 q2 q3 hVs
            refine hK.out _ _ ⟨cell_below HF.out.bel hb0, cell_below HF.out.bel hb1, cell_below HF.out.bel hb2, cell_below HF.out.bel hb3⟩ (fun hHeld => ?_)
            clear hK K
            refine norm_ (a' := ?_) ?_ ?_
            rotate_left
            · show Act.put _ (some 72) _ = _
              simp only [Act.put, List.setIfInBounds_toArray, List.set_cons_zero, List.set_cons_succ]
              rfl
            refine one_ (i := 6) (N := (some 75)) #[true, true, true, true, true, true, true, true, false] rfl rfl (by kernel_rfl) (by decide) (fun K hK => ?_)
            refine goes_ Try.func30 (by kernel_rfl) rfl #[.agg #[.bool (decide (Z.num < 0)), .slice A7 (dg Z.num.natAbs).length c7, .slice B7 (dg Z.den).length d7], .agg #[.bool (decide (sc.num < 0)), .slice A6 (dg sc.num.natAbs).length c6, .slice B6 (dg sc.den).length d6]] (by rfl) rfl rfl (by (try simp only [List.map_toArray, List.map_cons, List.map_nil]); first | done | rfl) ?_
            refine (hL.out W7 A7 c7 B7 d7 A6 c6 B6 d6 P7.out (P6.out.below HF.out.bel)).mono ?_
            rintro e W8 ⟨A8, c8, B8, d8, rfl, q1, q2, q3⟩
            refine ⟨_, rfl, ?_⟩
            replace HF := Lib.hid (HF.out.below q3)
            have P8 := Lib.hid (InQ.mk q1 q2)
            clear q1 q2 q3 hL P7
            refine hK.out _ _ ⟨cell_below HF.out.bel hb0, cell_below HF.out.bel hb1, cell_below HF.out.bel hb2, cell_below HF.out.bel hb3⟩ (fun hHeld => ?_)
            clear hK K
            refine norm_ (a' := ?_) ?_ ?_
            rotate_left
            · show Act.put _ (some 75) _ = _
              simp only [Act.put, List.setIfInBounds_toArray, List.set_cons_zero, List.set_cons_succ]
              rfl
            refine one_ (i := 8) (N := none) #[true, true, true, true, true, true, true, true, true] rfl rfl (by kernel_rfl) (by decide) (fun K hK => ?_)
            have hf0 := HF.out.frozenN 0 rfl 0
            have hf1 := HF.out.frozenN 0 rfl 1
            have hf2 := HF.out.frozenN 0 rfl 2
            have hd0 := HF.out.cellN 0 rfl 0 rfl
            have hd1 := HF.out.cellN 0 rfl 1 rfl
            have hd2 := HF.out.cellN 0 rfl 2 rfl
            refine skip_ (w1 := ?_) (by rfl) rfl ?_ ?_
            rotate_left
            · go_simp
              rfl
            replace P8 := Lib.hid (P8.out.put3 (HF.out.ownN 0 rfl) (by simp) (a := .bool (decide (L.num < 0))) (by simp) (b := .slice A8 (dg L.num.natAbs).length c8) (by simp) (.slice B8 (dg L.den).length d8))
            replace HF := Lib.hid (HF.out.put3 0 rfl hgw (by simp) (.bool (decide (L.num < 0))) (.slice A8 (dg L.num.natAbs).length c8) (.slice B8 (dg L.den).length d8))
            clear hf0 hf1 hf2 hd0 hd1 hd2
            refine hK.out _ _ ⟨cell_below HF.out.bel hb0, cell_below HF.out.bel hb1, cell_below HF.out.bel hb2, cell_below HF.out.bel hb3⟩ (fun hHeld => ?_)
            clear hK K
            exact hcont (g4, (A7, c7, B7, d7), A8, c8, B8, d8) _ ⟨HF.out, P8.out⟩
        rintro ⟨g4, ⟨A7, c7, B7, d7⟩, A8, c8, B8, d8⟩ W ⟨hF_, q1⟩
        clear hHeld
        refine norm_ (a' := ?_) ?_ ?_
        rotate_left
        · show putAll _ _ = _
          simp only [putAll, Act.put, List.setIfInBounds_toArray, List.set_cons_zero, List.set_cons_succ]
          rfl
        refine done_ (by kernel_rfl) ?_
        have HF4 := Lib.hid hF_
        have P8 := Lib.hid q1
        clear hF_ q1 hb0 hb1 hb2 hb3 Q6 P6
        have HFc := Lib.hid (HFb.out.below HF4.out.bel)
        replace HRo := Lib.hid (Knd.Row.below HF4.out.bel HRo.out)
        clear HFb
        obtain ⟨Wc, hWc⟩ : ∃ X, X = W := ⟨_, rfl⟩
        subst hWc
        have hb0 := HFc.out.cellN 2 rfl 0 rfl
        have hb1 := HFc.out.cellN 2 rfl 1 rfl
        have hb2 := HFc.out.cellN 2 rfl 2 rfl
        have hb3 := HFc.out.cellN 2 rfl 3 rfl
        have HF : Hid (Fr Wc Wc []) := Fr.refl Wc
        go_wp2_with fail
        have HF_ := Lib.hid HF.out.drew
        clear HF
        have HF := HF_
        clear HF_
        refine start_ (n := 9) (S := fun w' => w'.cell? (⟨g1, 0, none⟩) = some (.slice A f.length c) ∧ w'.cell? (⟨g1, 1, none⟩) = some (.bool s1) ∧ w'.cell? (⟨g1, 2, none⟩) = some (.slice A1 x1.length c1) ∧ w'.cell? (⟨g1, 3, none⟩) = some (.slice B1 y1.length d1)) (ds := []) #[false, false, false, false, false, false, false, false, false] (by kernel_rfl) rfl rfl ⟨cell_below HF.out.bel hb0, cell_below HF.out.bel hb1, cell_below HF.out.bel hb2, cell_below HF.out.bel hb3⟩ (fun hHeld => ?_)
        generalize World.drew _ = W at *
        refine pure_ (i := 0) (N := (some 76)) (v := ?_) (a' := ?_) #[true, false, false, false, false, false, false, false, false] rfl rfl (by kernel_rfl) (fun _ _ _ h => h) (Or.inl ⟨by rfl, ?_⟩) ?_ ?_
        rotate_left
        · intro w'
          go_simp
          with_reducible rfl
        rotate_left
        · simp only [Act.put, List.setIfInBounds_toArray, List.set_cons_zero, List.set_cons_succ]
          rfl
        refine pure_ (i := 2) (N := (some 78)) (v := ?_) (a' := ?_) #[true, false, true, false, false, false, false, false, false] rfl rfl (by kernel_rfl) (fun _ _ _ h => h) (Or.inl ⟨by rfl, ?_⟩) ?_ ?_
        rotate_left
        · intro w'
          go_simp
          with_reducible rfl
        rotate_left
        · simp only [Act.put, List.setIfInBounds_toArray, List.set_cons_zero, List.set_cons_succ]
          rfl
        refine pure_ (i := 4) (N := (some 80)) (v := ?_) (a' := ?_) #[true, false, true, false, true, false, false, false, false] rfl rfl (by kernel_rfl) (fun _ _ _ h => h) (Or.inl ⟨by rfl, ?_⟩) ?_ ?_
        rotate_left
        · intro w'
          go_simp
          with_reducible rfl
        rotate_left
        · simp only [Act.put, List.setIfInBounds_toArray, List.set_cons_zero, List.set_cons_succ]
          rfl
        refine take_ (i := 1) (N := (some 77)) (v := ?_) (a' := ?_) #[true, true, true, false, true, false, false, false, false] rfl rfl (by kernel_rfl) (fun _ _ _ h => h) (Or.inl ⟨by rfl, ?_⟩) hHeld ?_ ?_
        rotate_left
        · rintro w' ⟨s0, s1, s2, s3⟩
          go_simp
          with_reducible rfl
        rotate_left
        · simp only [Act.put, List.setIfInBounds_toArray, List.set_cons_zero, List.set_cons_succ]
          rfl
        refine take_ (i := 5) (N := (some 81)) (v := ?_) (a' := ?_) #[true, true, true, false, true, true, false, false, false] rfl rfl (by kernel_rfl) (fun _ _ _ h => h) (Or.inl ⟨by rfl, ?_⟩) hHeld ?_ ?_
        rotate_left
        · rintro w' ⟨s0, s1, s2, s3⟩
          go_simp
          with_reducible rfl
        rotate_left
        · simp only [Act.put, List.setIfInBounds_toArray, List.set_cons_zero, List.set_cons_succ]
          rfl
        refine join_ (σ := Nat × (Option Addr × Nat × Option Addr × Nat) × Option Addr × Nat × Option Addr × Nat) 0 #[true, true, true, true, true, true, true, true, true] (fun ⟨g5, ⟨A7, c7, B7, d7⟩, A9, c9, B9, d9⟩ => [(79, .agg #[.bool (decide (Y.num < 0)), .slice A7 (dg Y.num.natAbs).length c7, .slice B7 (dg Y.den).length d7]), (82, .agg #[.bool (decide (L.num < 0)), .slice A9 (dg L.num.natAbs).length c9, .slice B9 (dg L.den).length d9]), (11, .pointer (some ⟨g5, 0, none⟩))]) (fun ⟨g5, ⟨A7, c7, B7, d7⟩, A9, c9, B9, d9⟩ W' => Fr Wc W' [(g5, [.bool (decide (L.num < 0)), .slice A9 (dg L.num.natAbs).length c9, .slice B9 (dg L.den).length d9])] ∧ InQ W' A9 c9 B9 d9 L) ?hc2 ?hm2
        case hm2 =>
          intro hcont
          refine two_ (i := 3) (j := 7) (Ni := (some 79)) (Nj := (some 11)) #[true, true, true, true, true, true, false, false, false] #[true, true, true, false, true, true, false, true, false] rfl rfl rfl rfl (by kernel_rfl) (by decide) (by decide) (fun K hK => ?_) (fun K hK => ?_)
          · refine goes_ Try.func17 (by kernel_rfl) rfl #[.slice A f.length c, .slice (some ⟨go, 0, none⟩) vs.length cap] (by rfl) rfl rfl (by (try simp only [List.map_toArray, List.map_cons, List.map_nil]); first | done | rfl) ?_
            refine (hVo.out W (HFc.out.below HF.out.bel).bel (some ⟨go, 0, none⟩) cap (Knd.Row.below HF.out.bel HRo.out) hocap).mono ?_
            rintro e W1 ⟨A7, c7, B7, d7, rfl, q1, q2, q3⟩
            refine ⟨_, rfl, ?_⟩
            replace HF := Lib.hid (HF.out.below q3)
            have P7 := Lib.hid (InQ.mk q1 q2)
            clear q1 q2 q3 hVo
            refine hK.out _ _ ⟨cell_below HF.out.bel hb0, cell_below HF.out.bel hb1, cell_below HF.out.bel hb2, cell_below HF.out.bel hb3⟩ (fun hHeld => ?_)
            clear hK K
            refine norm_ (a' := ?_) ?_ ?_
            rotate_left
            · show Act.put _ (some 79) _ = _
              simp only [Act.put, List.setIfInBounds_toArray, List.set_cons_zero, List.set_cons_succ]
              rfl
            refine two_ (i := 6) (j := 7) (Ni := (some 82)) (Nj := (some 11)) #[true, true, true, true, true, true, true, false, false] #[true, true, true, true, true, true, false, true, false] rfl rfl rfl rfl (by kernel_rfl) (by decide) (by decide) (fun K hK => ?_) (fun K hK => ?_)
            · refine goes_ Try.func30 (by kernel_rfl) rfl #[.agg #[.bool (decide (Y.num < 0)), .slice A7 (dg Y.num.natAbs).length c7, .slice B7 (dg Y.den).length d7], .agg #[.bool s1, .slice A1 x1.length c1, .slice B1 y1.length d1]] (by rfl) rfl rfl (by (try simp only [List.map_toArray, List.map_cons, List.map_nil]); first | done | rfl) ?_
              refine (hRr.out W1 (HFc.out.below HF.out.bel).bel A7 c7 B7 d7 P7.out).mono ?_
              rintro e W2 ⟨A9, c9, B9, d9, rfl, q1, q2, q3⟩
              refine ⟨_, rfl, ?_⟩
              replace HF := Lib.hid (HF.out.below q3)
              have P9 := Lib.hid (InQ.mk q1 q2)
              clear q1 q2 q3 hRr P7
              refine hK.out _ _ ⟨cell_below HF.out.bel hb0, cell_below HF.out.bel hb1, cell_below HF.out.bel hb2, cell_below HF.out.bel hb3⟩ (fun hHeld => ?_)
              clear hK K
              refine norm_ (a' := ?_) ?_ ?_
              rotate_left
              · show Act.put _ (some 82) _ = _
                simp only [Act.put, List.setIfInBounds_toArray, List.set_cons_zero, List.set_cons_succ]
                rfl
              refine one_ (i := 7) (N := (some 11)) #[true, true, true, true, true, true, true, true, false] rfl rfl (by kernel_rfl) (by decide) (fun K hK => ?_)
              refine value_ (v := ?_) (w1 := ?_) (by rfl) rfl ?_ ?_
              rotate_left
              rotate_left
              · go_simp
                first | rfl | (refine ⟨?_, ?_⟩ <;> rfl)
              have hgw : Wc.heap.size ≤ W2.heap.size := HF.out.size
              have hbe := Lib.hid ((Below.refl _ W2).alloc (Nat.le_refl _) (.cells #[.bool false, .slice none 0 0, .slice none 0 0] 31))
              try replace P7 := Lib.hid (P7.out.below hbe.out)
              try replace P9 := Lib.hid (P9.out.below hbe.out)
              replace HF := Lib.hid (HF.out.boxEnd [.bool false, .slice none 0 0, .slice none 0 0] 31)
              refine hK.out _ _ ⟨cell_below HF.out.bel hb0, cell_below HF.out.bel hb1, cell_below HF.out.bel hb2, cell_below HF.out.bel hb3⟩ (fun hHeld => ?_)
              clear hK K
              refine norm_ (a' := ?_) ?_ ?_
              rotate_left
              · show Act.put _ (some 11) _ = _
                simp only [Act.put, List.setIfInBounds_toArray, List.set_cons_zero, List.set_cons_succ]
                rfl
              obtain ⟨g5, hg0⟩ : ∃ g0, g0 = W2.heap.size := ⟨_, rfl⟩
              obtain ⟨W3, hV⟩ : ∃ X, X = W2.alloc (.cells #[.bool false, .slice none 0 0, .slice none 0 0] 31) := ⟨_, rfl⟩
              rw [← hg0] at HF hgw ⊢
              rw [← hV] at HF ⊢
              try rw [← hV] at P7
              try rw [← hV] at P9
              clear hg0 hV hbe
              refine one_ (i := 8) (N := none) #[true, true, true, true, true, true, true, true, true] rfl rfl (by kernel_rfl) (by decide) (fun K hK => ?_)
              have hf0 := HF.out.frozenN 0 rfl 0
              have hf1 := HF.out.frozenN 0 rfl 1
              have hf2 := HF.out.frozenN 0 rfl 2
              have hd0 := HF.out.cellN 0 rfl 0 rfl
              have hd1 := HF.out.cellN 0 rfl 1 rfl
              have hd2 := HF.out.cellN 0 rfl 2 rfl
              refine skip_ (w1 := ?_) (by rfl) rfl ?_ ?_
              rotate_left
              · go_simp
                rfl
              replace P9 := Lib.hid (P9.out.put3 (HF.out.ownN 0 rfl) (by simp) (a := .bool (decide (L.num < 0))) (by simp) (b := .slice A9 (dg L.num.natAbs).length c9) (by simp) (.slice B9 (dg L.den).length d9))
              replace HF := Lib.hid (HF.out.put3 0 rfl hgw (by simp) (.bool (decide (L.num < 0))) (.slice A9 (dg L.num.natAbs).length c9) (.slice B9 (dg L.den).length d9))
              clear hf0 hf1 hf2 hd0 hd1 hd2
              refine hK.out _ _ ⟨cell_below HF.out.bel hb0, cell_below HF.out.bel hb1, cell_below HF.out.bel hb2, cell_below HF.out.bel hb3⟩ (fun hHeld => ?_)
              clear hK K
              exact hcont (g5, (A7, c7, B7, d7), A9, c9, B9, d9) _ ⟨HF.out, P9.out⟩
            · refine value_ (v := ?_) (w1 := ?_) (by rfl) rfl ?_ ?_
              rotate_left
              rotate_left
              · go_simp
                first | rfl | (refine ⟨?_, ?_⟩ <;> rfl)
              have hgw : Wc.heap.size ≤ W1.heap.size := HF.out.size
              have hbe := Lib.hid ((Below.refl _ W1).alloc (Nat.le_refl _) (.cells #[.bool false, .slice none 0 0, .slice none 0 0] 31))
              try replace P7 := Lib.hid (P7.out.below hbe.out)
              try replace P9 := Lib.hid (P9.out.below hbe.out)
              replace HF := Lib.hid (HF.out.boxEnd [.bool false, .slice none 0 0, .slice none 0 0] 31)
              refine hK.out _ _ ⟨cell_below HF.out.bel hb0, cell_below HF.out.bel hb1, cell_below HF.out.bel hb2, cell_below HF.out.bel hb3⟩ (fun hHeld => ?_)
              clear hK K
              refine norm_ (a' := ?_) ?_ ?_
              rotate_left
              · show Act.put _ (some 11) _ = _
                simp only [Act.put, List.setIfInBounds_toArray, List.set_cons_zero, List.set_cons_succ]
                rfl
              obtain ⟨g5, hg0⟩ : ∃ g0, g0 = W1.heap.size := ⟨_, rfl⟩
              obtain ⟨W4, hV⟩ : ∃ X, X = W1.alloc (.cells #[.bool false, .slice none 0 0, .slice none 0 0] 31) := ⟨_, rfl⟩
              rw [← hg0] at HF hgw ⊢
              rw [← hV] at HF ⊢
              try rw [← hV] at P7
              try rw [← hV] at P9
              clear hg0 hV hbe
              refine one_ (i := 6) (N := (some 82)) #[true, true, true, true, true, true, true, true, false] rfl rfl (by kernel_rfl) (by decide) (fun K hK => ?_)
              refine goes_ Try.func30 (by kernel_rfl) rfl #[.agg #[.bool (decide (Y.num < 0)), .slice A7 (dg Y.num.natAbs).length c7, .slice B7 (dg Y.den).length d7], .agg #[.bool s1, .slice A1 x1.length c1, .slice B1 y1.length d1]] (by rfl) rfl rfl (by (try simp only [List.map_toArray, List.map_cons, List.map_nil]); first | done | rfl) ?_
              refine (hRr.out W4 (HFc.out.below HF.out.bel).bel A7 c7 B7 d7 P7.out).mono ?_
              rintro e W5 ⟨A9, c9, B9, d9, rfl, q1, q2, q3⟩
              refine ⟨_, rfl, ?_⟩
              replace HF := Lib.hid (HF.out.below q3)
              have P9 := Lib.hid (InQ.mk q1 q2)
              clear q1 q2 q3 hRr P7
              refine hK.out _ _ ⟨cell_below HF.out.bel hb0, cell_below HF.out.bel hb1, cell_below HF.out.bel hb2, cell_below HF.out.bel hb3⟩ (fun hHeld => ?_)
              clear hK K
              refine norm_ (a' := ?_) ?_ ?_
              rotate_left
              · show Act.put _ (some 82) _ = _
                simp only [Act.put, List.setIfInBounds_toArray, List.set_cons_zero, List.set_cons_succ]
                rfl
              refine one_ (i := 8) (N := none) #[true, true, true, true, true, true, true, true, true] rfl rfl (by kernel_rfl) (by decide) (fun K hK => ?_)
              have hf0 := HF.out.frozenN 0 rfl 0
              have hf1 := HF.out.frozenN 0 rfl 1
              have hf2 := HF.out.frozenN 0 rfl 2
              have hd0 := HF.out.cellN 0 rfl 0 rfl
              have hd1 := HF.out.cellN 0 rfl 1 rfl
              have hd2 := HF.out.cellN 0 rfl 2 rfl
              refine skip_ (w1 := ?_) (by rfl) rfl ?_ ?_
              rotate_left
              · go_simp
                rfl
              replace P9 := Lib.hid (P9.out.put3 (HF.out.ownN 0 rfl) (by simp) (a := .bool (decide (L.num < 0))) (by simp) (b := .slice A9 (dg L.num.natAbs).length c9) (by simp) (.slice B9 (dg L.den).length d9))
              replace HF := Lib.hid (HF.out.put3 0 rfl hgw (by simp) (.bool (decide (L.num < 0))) (.slice A9 (dg L.num.natAbs).length c9) (.slice B9 (dg L.den).length d9))
              clear hf0 hf1 hf2 hd0 hd1 hd2
              refine hK.out _ _ ⟨cell_below HF.out.bel hb0, cell_below HF.out.bel hb1, cell_below HF.out.bel hb2, cell_below HF.out.bel hb3⟩ (fun hHeld => ?_)
              clear hK K
              exact hcont (g5, (A7, c7, B7, d7), A9, c9, B9, d9) _ ⟨HF.out, P9.out⟩
          · refine value_ (v := ?_) (w1 := ?_) (by rfl) rfl ?_ ?_
            rotate_left
            rotate_left
            · go_simp
              first | rfl | (refine ⟨?_, ?_⟩ <;> rfl)
            have hgw : Wc.heap.size ≤ W.heap.size := HF.out.size
            have hbe := Lib.hid ((Below.refl _ W).alloc (Nat.le_refl _) (.cells #[.bool false, .slice none 0 0, .slice none 0 0] 31))
            try replace P7 := Lib.hid (P7.out.below hbe.out)
            try replace P9 := Lib.hid (P9.out.below hbe.out)
            replace HF := Lib.hid (HF.out.boxEnd [.bool false, .slice none 0 0, .slice none 0 0] 31)
            refine hK.out _ _ ⟨cell_below HF.out.bel hb0, cell_below HF.out.bel hb1, cell_below HF.out.bel hb2, cell_below HF.out.bel hb3⟩ (fun hHeld => ?_)
            clear hK K
            refine norm_ (a' := ?_) ?_ ?_
            rotate_left
            · show Act.put _ (some 11) _ = _
              simp only [Act.put, List.setIfInBounds_toArray, List.set_cons_zero, List.set_cons_succ]
              rfl
            obtain ⟨g5, hg0⟩ : ∃ g0, g0 = W.heap.size := ⟨_, rfl⟩
            obtain ⟨W6, hV⟩ : ∃ X, X = W.alloc (.cells #[.bool false, .slice none 0 0, .slice none 0 0] 31) := ⟨_, rfl⟩
            rw [← hg0] at HF hgw ⊢
            rw [← hV] at HF ⊢
            try rw [← hV] at P7
            try rw [← hV] at P9
            clear hg0 hV hbe
            refine one_ (i := 3) (N := (some 79)) #[true, true, true, true, true, true, false, true, false] rfl rfl (by kernel_rfl) (by decide) (fun K hK => ?_)
            refine goes_ Try.func17 (by kernel_rfl) rfl #[.slice A f.length c, .slice (some ⟨go, 0, none⟩) vs.length cap] (by rfl) rfl rfl (by (try simp only [List.map_toArray, List.map_cons, List.map_nil]); first | done | rfl) ?_
            refine (hVo.out W6 (HFc.out.below HF.out.bel).bel (some ⟨go, 0, none⟩) cap (Knd.Row.below HF.out.bel HRo.out) hocap).mono ?_
            rintro e W7 ⟨A7, c7, B7, d7, rfl, q1, q2, q3⟩
            refine ⟨_, rfl, ?_⟩
            replace HF := Lib.hid (HF.out.below q3)
            have P7 := Lib.hid (InQ.mk q1 q2)
            clear q1 q2 q3 hVo
            refine hK.out _ _ ⟨cell_below HF.out.bel hb0, cell_below HF.out.bel hb1, cell_below HF.out.bel hb2, cell_below HF.out.bel hb3⟩ (fun hHeld => ?_)
            clear hK K
            refine norm_ (a' := ?_) ?_ ?_
            rotate_left
            · show Act.put _ (some 79) _ = _
              simp only [Act.put, List.setIfInBounds_toArray, List.set_cons_zero, List.set_cons_succ]
              rfl
            refine one_ (i := 6) (N := (some 82)) #[true, true, true, true, true, true, true, true, false] rfl rfl (by kernel_rfl) (by decide) (fun K hK => ?_)
            refine goes_ Try.func30 (by kernel_rfl) rfl #[.agg #[.bool (decide (Y.num < 0)), .slice A7 (dg Y.num.natAbs).length c7, .slice B7 (dg Y.den).length d7], .agg #[.bool s1, .slice A1 x1.length c1, .slice B1 y1.length d1]] (by rfl) rfl rfl (by (try simp only [List.map_toArray, List.map_cons, List.map_nil]); first | done | rfl) ?_
            refine (hRr.out W7 (HFc.out.below HF.out.bel).bel A7 c7 B7 d7 P7.out).mono ?_
            rintro e W8 ⟨A9, c9, B9, d9, rfl, q1, q2, q3⟩
            refine ⟨_, rfl, ?_⟩
            replace HF := Lib.hid (HF.out.below q3)
            have P9 := Lib.hid (InQ.mk q1 q2)
            clear q1 q2 q3 hRr P7
            refine hK.out _ _ ⟨cell_below HF.out.bel hb0, cell_below HF.out.bel hb1, cell_below HF.out.bel hb2, cell_below HF.out.bel hb3⟩ (fun hHeld => ?_)
            clear hK K
            refine norm_ (a' := ?_) ?_ ?_
            rotate_left
            · show Act.put _ (some 82) _ = _
              simp only [Act.put, List.setIfInBounds_toArray, List.set_cons_zero, List.set_cons_succ]
              rfl
            refine one_ (i := 8) (N := none) #[true, true, true, true, true, true, true, true, true] rfl rfl (by kernel_rfl) (by decide) (fun K hK => ?_)
            have hf0 := HF.out.frozenN 0 rfl 0
            have hf1 := HF.out.frozenN 0 rfl 1
            have hf2 := HF.out.frozenN 0 rfl 2
            have hd0 := HF.out.cellN 0 rfl 0 rfl
            have hd1 := HF.out.cellN 0 rfl 1 rfl
            have hd2 := HF.out.cellN 0 rfl 2 rfl
            refine skip_ (w1 := ?_) (by rfl) rfl ?_ ?_
            rotate_left
            · go_simp
              rfl
            replace P9 := Lib.hid (P9.out.put3 (HF.out.ownN 0 rfl) (by simp) (a := .bool (decide (L.num < 0))) (by simp) (b := .slice A9 (dg L.num.natAbs).length c9) (by simp) (.slice B9 (dg L.den).length d9))
            replace HF := Lib.hid (HF.out.put3 0 rfl hgw (by simp) (.bool (decide (L.num < 0))) (.slice A9 (dg L.num.natAbs).length c9) (.slice B9 (dg L.den).length d9))
            clear hf0 hf1 hf2 hd0 hd1 hd2
            refine hK.out _ _ ⟨cell_below HF.out.bel hb0, cell_below HF.out.bel hb1, cell_below HF.out.bel hb2, cell_below HF.out.bel hb3⟩ (fun hHeld => ?_)
            clear hK K
            exact hcont (g5, (A7, c7, B7, d7), A9, c9, B9, d9) _ ⟨HF.out, P9.out⟩
        rintro ⟨g5, ⟨A7, c7, B7, d7⟩, A9, c9, B9, d9⟩ W ⟨hF_, q1⟩
        clear hHeld
        refine norm_ (a' := ?_) ?_ ?_
        rotate_left
        · show putAll _ _ = _
          simp only [putAll, Act.put, List.setIfInBounds_toArray, List.set_cons_zero, List.set_cons_succ]
          rfl
        refine done_ (by kernel_rfl) ?_
        have HF5 := Lib.hid hF_
        have P9 := Lib.hid q1
        clear hF_ q1 hb0 hb1 hb2 hb3
        have HFd := Lib.hid (HFc.out.below HF5.out.bel)
        have HF4d := Lib.hid (HF4.out.below HF5.out.bel)
        replace P8 := Lib.hid (P8.out.below HF5.out.bel)
        have a0 := HF4d.out.cellN 0 rfl 0 rfl
        have a1 := HF4d.out.cellN 0 rfl 1 rfl
        have a2 := HF4d.out.cellN 0 rfl 2 rfl
        have b0 := HF5.out.cellN 0 rfl 0 rfl
        have b1 := HF5.out.cellN 0 rfl 1 rfl
        have b2 := HF5.out.cellN 0 rfl 2 rfl
        clear HF4 HF5 HF4d HFc
        go_wp2_with fail
        refine (hCL.out _ A8 c8 B8 d8 A9 c9 B9 d9 P8.out P9.out).mono ?_
        rintro e V6 ⟨rfl, q3⟩
        replace HFd := Lib.hid (HFd.out.below q3)
        clear q3 hCL P8 P9 a0 a1 a2 b0 b1 b2
        go_wp2_with fail
        refine (hAw.out _).mono ?_
        rintro e V7 ⟨rfl, q3⟩
        replace HFd := Lib.hid (HFd.out.below q3)
        clear q3 hAw
        go_wp2
        go_ret
        exact ⟨rfl, HFd.out.bel⟩
  · have hCf := Lib.hid (hCmp.out (valQ f vs) hvm2)
    clear hr hc hl1 hr2 hc2 hl2 kr kc gf gg gf0 gg0 gv hb hlf hlg hlv hV hpf hpg hpa hpf0 hpg0 n1 n2 n3 n4 R T i1 i2 i3 i4 vf vg hVg hCmp hvm hvm2
    generalize valQ f vs = q at *
    have hnot : v < 0 ∨ (vs.length : Int) ≤ v := by omega
    clear hin
    go_enter Try.func13, Try.ntmps13
    go_wp2_with fail
    have HF_ := Lib.hid HF.out.drew
    clear HF
    have HF := HF_
    clear HF_
    refine start_ (n := 14) (S := fun w' => w'.cell? ⟨w.heap.size, 0, none⟩ = some (.slice A f.length c) ∧ w'.cell? ⟨w.heap.size, 1, none⟩ = some (.bool s1) ∧ w'.cell? ⟨w.heap.size, 2, none⟩ = some (.slice A1 x1.length c1) ∧ w'.cell? ⟨w.heap.size, 3, none⟩ = some (.slice B1 y1.length d1) ∧ w'.cell? ⟨w.heap.size, 4, none⟩ = some (.int .i64 v) ∧ w'.cell? ⟨w.heap.size, 5, none⟩ = some (.slice A2 g.length c2) ∧ w'.cell? ⟨w.heap.size, 6, none⟩ = some (.bool s2) ∧ w'.cell? ⟨w.heap.size, 7, none⟩ = some (.slice A3 x2.length c3) ∧ w'.cell? ⟨w.heap.size, 8, none⟩ = some (.slice B3 y2.length d3) ∧ w'.cell? ⟨w.heap.size, 9, none⟩ = some (.slice E vs.length j)) (ds := []) #[false, false, false, false, false, false, false, false, false, false, false, false, false, false] (by kernel_rfl) rfl rfl ⟨HF.out.cellN 0 rfl 0 rfl, HF.out.cellN 0 rfl 1 rfl, HF.out.cellN 0 rfl 2 rfl, HF.out.cellN 0 rfl 3 rfl, HF.out.cellN 0 rfl 4 rfl, HF.out.cellN 0 rfl 5 rfl, HF.out.cellN 0 rfl 6 rfl, HF.out.cellN 0 rfl 7 rfl, HF.out.cellN 0 rfl 8 rfl, HF.out.cellN 0 rfl 9 rfl⟩ (fun hHeld => ?_)
    generalize World.drew _ = W at *
    refine pure_ (i := 0) (N := (some 12)) (v := ?_) (a' := ?_) #[true, false, false, false, false, false, false, false, false, false, false, false, false, false] rfl rfl (by kernel_rfl) (fun _ _ _ h => h) (Or.inl ⟨by rfl, ?_⟩) ?_ ?_
    rotate_left
    · intro w'
      go_simp
      with_reducible rfl
    rotate_left
    · simp only [Act.put, List.setIfInBounds_toArray, List.set_cons_zero, List.set_cons_succ]
      rfl
    refine pure_ (i := 2) (N := (some 14)) (v := ?_) (a' := ?_) #[true, false, true, false, false, false, false, false, false, false, false, false, false, false] rfl rfl (by kernel_rfl) (fun _ _ _ h => h) (Or.inl ⟨by rfl, ?_⟩) ?_ ?_
    rotate_left
    · intro w'
      go_simp
      with_reducible rfl
    rotate_left
    · simp only [Act.put, List.setIfInBounds_toArray, List.set_cons_zero, List.set_cons_succ]
      rfl
    refine pure_ (i := 4) (N := (some 16)) (v := ?_) (a' := ?_) #[true, false, true, false, true, false, false, false, false, false, false, false, false, false] rfl rfl (by kernel_rfl) (fun _ _ _ h => h) (Or.inl ⟨by rfl, ?_⟩) ?_ ?_
    rotate_left
    · intro w'
      go_simp
      with_reducible rfl
    rotate_left
    · simp only [Act.put, List.setIfInBounds_toArray, List.set_cons_zero, List.set_cons_succ]
      rfl
    refine pure_ (i := 6) (N := (some 18)) (v := ?_) (a' := ?_) #[true, false, true, false, true, false, true, false, false, false, false, false, false, false] rfl rfl (by kernel_rfl) (fun _ _ _ h => h) (Or.inl ⟨by rfl, ?_⟩) ?_ ?_
    rotate_left
    · intro w'
      go_simp
      with_reducible rfl
    rotate_left
    · simp only [Act.put, List.setIfInBounds_toArray, List.set_cons_zero, List.set_cons_succ]
      rfl
    refine take_ (i := 1) (N := (some 13)) (v := ?_) (a' := ?_) #[true, true, true, false, true, false, true, false, false, false, false, false, false, false] rfl rfl (by kernel_rfl) (fun _ _ _ h => h) (Or.inl ⟨by rfl, ?_⟩) hHeld ?_ ?_
    rotate_left
    · rintro w' ⟨s0, s1, s2, s3, s4, s5, s6, s7, s8, s9⟩
      go_simp
      with_reducible rfl
    rotate_left
    · simp only [Act.put, List.setIfInBounds_toArray, List.set_cons_zero, List.set_cons_succ]
      rfl
    refine take_ (i := 3) (N := (some 15)) (v := ?_) (a' := ?_) #[true, true, true, true, true, false, true, false, false, false, false, false, false, false] rfl rfl (by kernel_rfl) (fun _ _ _ h => h) (Or.inl ⟨by rfl, ?_⟩) hHeld ?_ ?_
    rotate_left
    · rintro w' ⟨s0, s1, s2, s3, s4, s5, s6, s7, s8, s9⟩
      go_simp
      with_reducible rfl
    rotate_left
    · simp only [Act.put, List.setIfInBounds_toArray, List.set_cons_zero, List.set_cons_succ]
      rfl
    refine take_ (i := 5) (N := (some 17)) (v := ?_) (a' := ?_) #[true, true, true, true, true, true, true, false, false, false, false, false, false, false] rfl rfl (by kernel_rfl) (fun _ _ _ h => h) (Or.inl ⟨by rfl, ?_⟩) hHeld ?_ ?_
    rotate_left
    · rintro w' ⟨s0, s1, s2, s3, s4, s5, s6, s7, s8, s9⟩
      go_simp
      with_reducible rfl
    rotate_left
    · simp only [Act.put, List.setIfInBounds_toArray, List.set_cons_zero, List.set_cons_succ]
      rfl
    refine take_ (i := 7) (N := (some 19)) (v := ?_) (a' := ?_) #[true, true, true, true, true, true, true, true, false, false, false, false, false, false] rfl rfl (by kernel_rfl) (fun _ _ _ h => h) (Or.inl ⟨by rfl, ?_⟩) hHeld ?_ ?_
    rotate_left
    · rintro w' ⟨s0, s1, s2, s3, s4, s5, s6, s7, s8, s9⟩
      go_simp
      with_reducible rfl
    rotate_left
    · simp only [Act.put, List.setIfInBounds_toArray, List.set_cons_zero, List.set_cons_succ]
      rfl
    refine join_ (σ := Nat × Nat) 0 #[true, true, true, true, true, true, true, true, true, true, true, true, true, true] (fun ⟨g1, g2⟩ => [(3, .pointer (some ⟨g1, 0, none⟩)), (5, .pointer (some ⟨g2, 0, none⟩)), (4, .int .i64 v), (6, .slice E vs.length j)]) (fun ⟨g1, g2⟩ W' => w.heap.size + 1 ≤ g1 ∧ w.heap.size + 1 ≤ g2 ∧ g1 ≠ g2 ∧ Fr w W' [(w.heap.size, [.slice A f.length c, .bool s1, .slice A1 x1.length c1, .slice B1 y1.length d1, .int .i64 v, .slice A2 g.length c2, .bool s2, .slice A3 x2.length c3, .slice B3 y2.length d3, .slice E vs.length j]), (g1, [.slice A f.length c, .bool s1, .slice A1 x1.length c1, .slice B1 y1.length d1]), (g2, [.slice A2 g.length c2, .bool s2, .slice A3 x2.length c3, .slice B3 y2.length d3])]) ?hc3 ?hm3
    case hm3 =>
      intro hcont
      refine two_ (i := 8) (j := 9) (Ni := (some 3)) (Nj := (some 5)) #[true, true, true, true, true, true, true, true, true, false, false, false, false, false] #[true, true, true, true, true, true, true, true, false, true, false, false, false, false] rfl rfl rfl rfl (by kernel_rfl) (by decide) (by decide) (fun K hK => ?_) (fun K hK => ?_)
      · refine value_ (v := ?_) (w1 := ?_) (by rfl) rfl ?_ ?_
        rotate_left
        rotate_left
        · go_simp
          first | rfl | (refine ⟨?_, ?_⟩ <;> rfl)
        have hg1 : w.heap.size + 1 ≤ W.heap.size := by have := HF.out.ltN 0 rfl; omega
        have hd1_ : ∀ x : Nat, x < W.heap.size → W.heap.size ≠ x := fun x hx => by omega
        have hd2_ : ∀ p, p ∈ [W.heap.size] → True := fun _ _ => trivial
        try have hg12 : W.heap.size ≠ g2 := hd1_ g2 (by have := HF.out.ltN 1 rfl; omega)
        replace HF := Lib.hid (HF.out.boxEnd [.slice none 0 0, .bool false, .slice none 0 0, .slice none 0 0] 60)
        try replace HF := Lib.hid (HF.out.swap12)
        clear hd1_ hd2_
        refine hK.out _ _ ⟨HF.out.cellN 0 rfl 0 rfl, HF.out.cellN 0 rfl 1 rfl, HF.out.cellN 0 rfl 2 rfl, HF.out.cellN 0 rfl 3 rfl, HF.out.cellN 0 rfl 4 rfl, HF.out.cellN 0 rfl 5 rfl, HF.out.cellN 0 rfl 6 rfl, HF.out.cellN 0 rfl 7 rfl, HF.out.cellN 0 rfl 8 rfl, HF.out.cellN 0 rfl 9 rfl⟩ (fun hHeld => ?_)
        clear hK K
        refine norm_ (a' := ?_) ?_ ?_
        rotate_left
        · show Act.put _ (some 3) _ = _
          simp only [Act.put, List.setIfInBounds_toArray, List.set_cons_zero, List.set_cons_succ]
          rfl
        obtain ⟨g1, hg0⟩ : ∃ g0, g0 = W.heap.size := ⟨_, rfl⟩
        obtain ⟨W1, hV⟩ : ∃ X, X = W.alloc (.cells #[.slice none 0 0, .bool false, .slice none 0 0, .slice none 0 0] 60) := ⟨_, rfl⟩
        rw [← hg0] at HF hg1 ⊢
        try rw [← hg0] at hg12
        rw [← hV] at HF ⊢
        clear hg0 hV
        refine one_ (i := 9) (N := (some 5)) #[true, true, true, true, true, true, true, true, true, true, false, false, false, false] rfl rfl (by kernel_rfl) (by decide) (fun K hK => ?_)
        refine value_ (v := ?_) (w1 := ?_) (by rfl) rfl ?_ ?_
        rotate_left
        rotate_left
        · go_simp
          first | rfl | (refine ⟨?_, ?_⟩ <;> rfl)
        have hg2 : w.heap.size + 1 ≤ W1.heap.size := by have := HF.out.ltN 0 rfl; omega
        try have hg12 : g1 ≠ W1.heap.size := (by have := HF.out.ltN 1 rfl; omega)
        replace HF := Lib.hid (HF.out.boxEnd [.slice none 0 0, .bool false, .slice none 0 0, .slice none 0 0] 60)
        refine hK.out _ _ ⟨HF.out.cellN 0 rfl 0 rfl, HF.out.cellN 0 rfl 1 rfl, HF.out.cellN 0 rfl 2 rfl, HF.out.cellN 0 rfl 3 rfl, HF.out.cellN 0 rfl 4 rfl, HF.out.cellN 0 rfl 5 rfl, HF.out.cellN 0 rfl 6 rfl, HF.out.cellN 0 rfl 7 rfl, HF.out.cellN 0 rfl 8 rfl, HF.out.cellN 0 rfl 9 rfl⟩ (fun hHeld => ?_)
        clear hK K
        refine norm_ (a' := ?_) ?_ ?_
        rotate_left
        · show Act.put _ (some 5) _ = _
          simp only [Act.put, List.setIfInBounds_toArray, List.set_cons_zero, List.set_cons_succ]
          rfl
        obtain ⟨g2, hg0⟩ : ∃ g0, g0 = W1.heap.size := ⟨_, rfl⟩
        obtain ⟨W2, hV⟩ : ∃ X, X = W1.alloc (.cells #[.slice none 0 0, .bool false, .slice none 0 0, .slice none 0 0] 60) := ⟨_, rfl⟩
        rw [← hg0] at HF hg2 ⊢
        try rw [← hg0] at hg12
        rw [← hV] at HF ⊢
        clear hg0 hV
        refine one_ (i := 10) (N := none) #[true, true, true, true, true, true, true, true, true, true, true, false, false, false] rfl rfl (by kernel_rfl) (by decide) (fun K hK => ?_)
        have hf0 := HF.out.frozenN 1 rfl 0
        have hf1 := HF.out.frozenN 1 rfl 1
        have hf2 := HF.out.frozenN 1 rfl 2
        have hf3 := HF.out.frozenN 1 rfl 3
        have hd0 := HF.out.cellN 1 rfl 0 rfl
        have hd1 := HF.out.cellN 1 rfl 1 rfl
        have hd2 := HF.out.cellN 1 rfl 2 rfl
        have hd3 := HF.out.cellN 1 rfl 3 rfl
        refine skip_ (w1 := ?_) (by rfl) rfl ?_ ?_
        rotate_left
        · go_simp
          rfl
        replace HF := Lib.hid (HF.out.put4 1 rfl (by omega) (by simp <;> omega) (.slice A f.length c) (.bool s1) (.slice A1 x1.length c1) (.slice B1 y1.length d1))
        clear hf0 hf1 hf2 hf3 hd0 hd1 hd2 hd3
        refine hK.out _ _ ⟨HF.out.cellN 0 rfl 0 rfl, HF.out.cellN 0 rfl 1 rfl, HF.out.cellN 0 rfl 2 rfl, HF.out.cellN 0 rfl 3 rfl, HF.out.cellN 0 rfl 4 rfl, HF.out.cellN 0 rfl 5 rfl, HF.out.cellN 0 rfl 6 rfl, HF.out.cellN 0 rfl 7 rfl, HF.out.cellN 0 rfl 8 rfl, HF.out.cellN 0 rfl 9 rfl⟩ (fun hHeld => ?_)
        clear hK K
        refine pure_ (i := 11) (N := (some 4)) (v := ?_) (a' := ?_) #[true, true, true, true, true, true, true, true, true, true, true, true, false, false] rfl rfl (by kernel_rfl) (fun _ _ _ h => h) (Or.inl ⟨by rfl, ?_⟩) ?_ ?_
        rotate_left
        · intro w'
          go_simp
          with_reducible rfl
        rotate_left
        · simp only [Act.put, List.setIfInBounds_toArray, List.set_cons_zero, List.set_cons_succ]
          rfl
        refine one_ (i := 12) (N := none) #[true, true, true, true, true, true, true, true, true, true, true, true, true, false] rfl rfl (by kernel_rfl) (by decide) (fun K hK => ?_)
        have hf0 := HF.out.frozenN 2 rfl 0
        have hf1 := HF.out.frozenN 2 rfl 1
        have hf2 := HF.out.frozenN 2 rfl 2
        have hf3 := HF.out.frozenN 2 rfl 3
        have hd0 := HF.out.cellN 2 rfl 0 rfl
        have hd1 := HF.out.cellN 2 rfl 1 rfl
        have hd2 := HF.out.cellN 2 rfl 2 rfl
        have hd3 := HF.out.cellN 2 rfl 3 rfl
        refine skip_ (w1 := ?_) (by rfl) rfl ?_ ?_
        rotate_left
        · go_simp
          rfl
        replace HF := Lib.hid (HF.out.put4 2 rfl (by omega) (by simp <;> omega) (.slice A2 g.length c2) (.bool s2) (.slice A3 x2.length c3) (.slice B3 y2.length d3))
        clear hf0 hf1 hf2 hf3 hd0 hd1 hd2 hd3
        refine hK.out _ _ ⟨HF.out.cellN 0 rfl 0 rfl, HF.out.cellN 0 rfl 1 rfl, HF.out.cellN 0 rfl 2 rfl, HF.out.cellN 0 rfl 3 rfl, HF.out.cellN 0 rfl 4 rfl, HF.out.cellN 0 rfl 5 rfl, HF.out.cellN 0 rfl 6 rfl, HF.out.cellN 0 rfl 7 rfl, HF.out.cellN 0 rfl 8 rfl, HF.out.cellN 0 rfl 9 rfl⟩ (fun hHeld => ?_)
        clear hK K
        refine pure_ (i := 13) (N := (some 6)) (v := ?_) (a' := ?_) #[true, true, true, true, true, true, true, true, true, true, true, true, true, true] rfl rfl (by kernel_rfl) (fun _ _ _ h => h) (Or.inl ⟨by rfl, ?_⟩) ?_ ?_
        rotate_left
        · intro w'
          go_simp
          with_reducible rfl
        rotate_left
        · simp only [Act.put, List.setIfInBounds_toArray, List.set_cons_zero, List.set_cons_succ]
          rfl
        exact hcont (g1, g2) _ ⟨hg1, hg2, hg12, HF.out⟩
      · refine value_ (v := ?_) (w1 := ?_) (by rfl) rfl ?_ ?_
        rotate_left
        rotate_left
        · go_simp
          first | rfl | (refine ⟨?_, ?_⟩ <;> rfl)
        have hg2 : w.heap.size + 1 ≤ W.heap.size := by have := HF.out.ltN 0 rfl; omega
        try have hg12 : g1 ≠ W.heap.size := (by have := HF.out.ltN 1 rfl; omega)
        replace HF := Lib.hid (HF.out.boxEnd [.slice none 0 0, .bool false, .slice none 0 0, .slice none 0 0] 60)
        refine hK.out _ _ ⟨HF.out.cellN 0 rfl 0 rfl, HF.out.cellN 0 rfl 1 rfl, HF.out.cellN 0 rfl 2 rfl, HF.out.cellN 0 rfl 3 rfl, HF.out.cellN 0 rfl 4 rfl, HF.out.cellN 0 rfl 5 rfl, HF.out.cellN 0 rfl 6 rfl, HF.out.cellN 0 rfl 7 rfl, HF.out.cellN 0 rfl 8 rfl, HF.out.cellN 0 rfl 9 rfl⟩ (fun hHeld => ?_)
        clear hK K
        refine norm_ (a' := ?_) ?_ ?_
        rotate_left
        · show Act.put _ (some 5) _ = _
          simp only [Act.put, List.setIfInBounds_toArray, List.set_cons_zero, List.set_cons_succ]
          rfl
        obtain ⟨g2, hg0⟩ : ∃ g0, g0 = W.heap.size := ⟨_, rfl⟩
        obtain ⟨W3, hV⟩ : ∃ X, X = W.alloc (.cells #[.slice none 0 0, .bool false, .slice none 0 0, .slice none 0 0] 60) := ⟨_, rfl⟩
        rw [← hg0] at HF hg2 ⊢
        try rw [← hg0] at hg12
        rw [← hV] at HF ⊢
        clear hg0 hV
        refine one_ (i := 8) (N := (some 3)) #[true, true, true, true, true, true, true, true, true, true, false, false, false, false] rfl rfl (by kernel_rfl) (by decide) (fun K hK => ?_)
        refine value_ (v := ?_) (w1 := ?_) (by rfl) rfl ?_ ?_
        rotate_left
        rotate_left
        · go_simp
          first | rfl | (refine ⟨?_, ?_⟩ <;> rfl)
        have hg1 : w.heap.size + 1 ≤ W3.heap.size := by have := HF.out.ltN 0 rfl; omega
        have hd1_ : ∀ x : Nat, x < W3.heap.size → W3.heap.size ≠ x := fun x hx => by omega
        have hd2_ : ∀ p, p ∈ [W3.heap.size] → True := fun _ _ => trivial
        try have hg12 : W3.heap.size ≠ g2 := hd1_ g2 (by have := HF.out.ltN 1 rfl; omega)
        replace HF := Lib.hid (HF.out.boxEnd [.slice none 0 0, .bool false, .slice none 0 0, .slice none 0 0] 60)
        try replace HF := Lib.hid (HF.out.swap12)
        clear hd1_ hd2_
        refine hK.out _ _ ⟨HF.out.cellN 0 rfl 0 rfl, HF.out.cellN 0 rfl 1 rfl, HF.out.cellN 0 rfl 2 rfl, HF.out.cellN 0 rfl 3 rfl, HF.out.cellN 0 rfl 4 rfl, HF.out.cellN 0 rfl 5 rfl, HF.out.cellN 0 rfl 6 rfl, HF.out.cellN 0 rfl 7 rfl, HF.out.cellN 0 rfl 8 rfl, HF.out.cellN 0 rfl 9 rfl⟩ (fun hHeld => ?_)
        clear hK K
        refine norm_ (a' := ?_) ?_ ?_
        rotate_left
        · show Act.put _ (some 3) _ = _
          simp only [Act.put, List.setIfInBounds_toArray, List.set_cons_zero, List.set_cons_succ]
          rfl
        obtain ⟨g1, hg0⟩ : ∃ g0, g0 = W3.heap.size := ⟨_, rfl⟩
        obtain ⟨W4, hV⟩ : ∃ X, X = W3.alloc (.cells #[.slice none 0 0, .bool false, .slice none 0 0, .slice none 0 0] 60) := ⟨_, rfl⟩
        rw [← hg0] at HF hg1 ⊢
        try rw [← hg0] at hg12
        rw [← hV] at HF ⊢
        clear hg0 hV
        refine one_ (i := 10) (N := none) #[true, true, true, true, true, true, true, true, true, true, true, false, false, false] rfl rfl (by kernel_rfl) (by decide) (fun K hK => ?_)
        have hf0 := HF.out.frozenN 1 rfl 0
        have hf1 := HF.out.frozenN 1 rfl 1
        have hf2 := HF.out.frozenN 1 rfl 2
        have hf3 := HF.out.frozenN 1 rfl 3
        have hd0 := HF.out.cellN 1 rfl 0 rfl
        have hd1 := HF.out.cellN 1 rfl 1 rfl
        have hd2 := HF.out.cellN 1 rfl 2 rfl
        have hd3 := HF.out.cellN 1 rfl 3 rfl
        refine skip_ (w1 := ?_) (by rfl) rfl ?_ ?_
        rotate_left
        · go_simp
          rfl
        replace HF := Lib.hid (HF.out.put4 1 rfl (by omega) (by simp <;> omega) (.slice A f.length c) (.bool s1) (.slice A1 x1.length c1) (.slice B1 y1.length d1))
        clear hf0 hf1 hf2 hf3 hd0 hd1 hd2 hd3
        refine hK.out _ _ ⟨HF.out.cellN 0 rfl 0 rfl, HF.out.cellN 0 rfl 1 rfl, HF.out.cellN 0 rfl 2 rfl, HF.out.cellN 0 rfl 3 rfl, HF.out.cellN 0 rfl 4 rfl, HF.out.cellN 0 rfl 5 rfl, HF.out.cellN 0 rfl 6 rfl, HF.out.cellN 0 rfl 7 rfl, HF.out.cellN 0 rfl 8 rfl, HF.out.cellN 0 rfl 9 rfl⟩ (fun hHeld => ?_)
        clear hK K
        refine pure_ (i := 11) (N := (some 4)) (v := ?_) (a' := ?_) #[true, true, true, true, true, true, true, true, true, true, true, true, false, false] rfl rfl (by kernel_rfl) (fun _ _ _ h => h) (Or.inl ⟨by rfl, ?_⟩) ?_ ?_
        rotate_left
        · intro w'
          go_simp
          with_reducible rfl
        rotate_left
        · simp only [Act.put, List.setIfInBounds_toArray, List.set_cons_zero, List.set_cons_succ]
          rfl
        refine one_ (i := 12) (N := none) #[true, true, true, true, true, true, true, true, true, true, true, true, true, false] rfl rfl (by kernel_rfl) (by decide) (fun K hK => ?_)
        have hf0 := HF.out.frozenN 2 rfl 0
        have hf1 := HF.out.frozenN 2 rfl 1
        have hf2 := HF.out.frozenN 2 rfl 2
        have hf3 := HF.out.frozenN 2 rfl 3
        have hd0 := HF.out.cellN 2 rfl 0 rfl
        have hd1 := HF.out.cellN 2 rfl 1 rfl
        have hd2 := HF.out.cellN 2 rfl 2 rfl
        have hd3 := HF.out.cellN 2 rfl 3 rfl
        refine skip_ (w1 := ?_) (by rfl) rfl ?_ ?_
        rotate_left
        · go_simp
          rfl
        replace HF := Lib.hid (HF.out.put4 2 rfl (by omega) (by simp <;> omega) (.slice A2 g.length c2) (.bool s2) (.slice A3 x2.length c3) (.slice B3 y2.length d3))
        clear hf0 hf1 hf2 hf3 hd0 hd1 hd2 hd3
        refine hK.out _ _ ⟨HF.out.cellN 0 rfl 0 rfl, HF.out.cellN 0 rfl 1 rfl, HF.out.cellN 0 rfl 2 rfl, HF.out.cellN 0 rfl 3 rfl, HF.out.cellN 0 rfl 4 rfl, HF.out.cellN 0 rfl 5 rfl, HF.out.cellN 0 rfl 6 rfl, HF.out.cellN 0 rfl 7 rfl, HF.out.cellN 0 rfl 8 rfl, HF.out.cellN 0 rfl 9 rfl⟩ (fun hHeld => ?_)
        clear hK K
        refine pure_ (i := 13) (N := (some 6)) (v := ?_) (a' := ?_) #[true, true, true, true, true, true, true, true, true, true, true, true, true, true] rfl rfl (by kernel_rfl) (fun _ _ _ h => h) (Or.inl ⟨by rfl, ?_⟩) ?_ ?_
        rotate_left
        · intro w'
          go_simp
          with_reducible rfl
        rotate_left
        · simp only [Act.put, List.setIfInBounds_toArray, List.set_cons_zero, List.set_cons_succ]
          rfl
        exact hcont (g1, g2) _ ⟨hg1, hg2, hg12, HF.out⟩
    rintro ⟨g1, g2⟩ W ⟨hg1, hg2, hg12, hF_⟩
    clear hHeld
    refine norm_ (a' := ?_) ?_ ?_
    rotate_left
    · show putAll _ _ = _
      simp only [putAll, Act.put, List.setIfInBounds_toArray, List.set_cons_zero, List.set_cons_succ]
      rfl
    refine done_ (by kernel_rfl) ?_
    have HF := Lib.hid hF_
    clear hF_
    by_cases hneg : v < 0
    · clear hnot
      go_wp2_with fail
      have HF_ := Lib.hid HF.out.drew
      clear HF
      have HF := HF_
      clear HF_
      refine start_ (n := 14) (S := fun w' => w'.cell? ⟨g1, 0, none⟩ = some (.slice A f.length c) ∧ w'.cell? ⟨g1, 1, none⟩ = some (.bool s1) ∧ w'.cell? ⟨g1, 2, none⟩ = some (.slice A1 x1.length c1) ∧ w'.cell? ⟨g1, 3, none⟩ = some (.slice B1 y1.length d1)) (ds := []) #[false, false, false, false, false, false, false, false, false, false, false, false, false, false] (by kernel_rfl) rfl rfl ⟨HF.out.cellN 1 rfl 0 rfl, HF.out.cellN 1 rfl 1 rfl, HF.out.cellN 1 rfl 2 rfl, HF.out.cellN 1 rfl 3 rfl⟩ (fun hHeld => ?_)
      generalize World.drew _ = W at *
      refine pure_ (i := 0) (N := (some 28)) (v := ?_) (a' := ?_) #[true, false, false, false, false, false, false, false, false, false, false, false, false, false] rfl rfl (by kernel_rfl) (fun _ _ _ h => h) (Or.inl ⟨by rfl, ?_⟩) ?_ ?_
      rotate_left
      · intro w'
        go_simp
        with_reducible rfl
      rotate_left
      · simp only [Act.put, List.setIfInBounds_toArray, List.set_cons_zero, List.set_cons_succ]
        rfl
      refine pure_ (i := 2) (N := (some 30)) (v := ?_) (a' := ?_) #[true, false, true, false, false, false, false, false, false, false, false, false, false, false] rfl rfl (by kernel_rfl) (fun _ _ _ h => h) (Or.inl ⟨by rfl, ?_⟩) ?_ ?_
      rotate_left
      · intro w'
        go_simp
        with_reducible rfl
      rotate_left
      · simp only [Act.put, List.setIfInBounds_toArray, List.set_cons_zero, List.set_cons_succ]
        rfl
      refine pure_ (i := 4) (N := (some 32)) (v := ?_) (a' := ?_) #[true, false, true, false, true, false, false, false, false, false, false, false, false, false] rfl rfl (by kernel_rfl) (fun _ _ _ h => h) (Or.inl ⟨by rfl, ?_⟩) ?_ ?_
      rotate_left
      · intro w'
        go_simp
        with_reducible rfl
      rotate_left
      · simp only [Act.put, List.setIfInBounds_toArray, List.set_cons_zero, List.set_cons_succ]
        rfl
      refine pure_ (i := 6) (N := (some 34)) (v := ?_) (a' := ?_) #[true, false, true, false, true, false, true, false, false, false, false, false, false, false] rfl rfl (by kernel_rfl) (fun _ _ _ h => h) (Or.inl ⟨by rfl, ?_⟩) ?_ ?_
      rotate_left
      · intro w'
        go_simp
        with_reducible rfl
      rotate_left
      · simp only [Act.put, List.setIfInBounds_toArray, List.set_cons_zero, List.set_cons_succ]
        rfl
      refine take_ (i := 1) (N := (some 29)) (v := ?_) (a' := ?_) #[true, true, true, false, true, false, true, false, false, false, false, false, false, false] rfl rfl (by kernel_rfl) (fun _ _ _ h => h) (Or.inl ⟨by rfl, ?_⟩) hHeld ?_ ?_
      rotate_left
      · rintro w' ⟨s0, s1, s2, s3⟩
        go_simp
        with_reducible rfl
      rotate_left
      · simp only [Act.put, List.setIfInBounds_toArray, List.set_cons_zero, List.set_cons_succ]
        rfl
      refine take_ (i := 5) (N := (some 33)) (v := ?_) (a' := ?_) #[true, true, true, false, true, true, true, false, false, false, false, false, false, false] rfl rfl (by kernel_rfl) (fun _ _ _ h => h) (Or.inl ⟨by rfl, ?_⟩) hHeld ?_ ?_
      rotate_left
      · rintro w' ⟨s0, s1, s2, s3⟩
        go_simp
        with_reducible rfl
      rotate_left
      · simp only [Act.put, List.setIfInBounds_toArray, List.set_cons_zero, List.set_cons_succ]
        rfl
      refine one_ (i := 3) (N := (some 31)) #[true, true, true, true, true, true, true, false, false, false, false, false, false, false] rfl rfl (by kernel_rfl) (by decide) (fun K hK => ?_)
      refine goes_ Try.func17 (by kernel_rfl) rfl #[.slice A f.length c, .slice E vs.length j] (by rfl) rfl rfl (by (try simp only [List.map_toArray, List.map_cons, List.map_nil]); first | done | rfl) ?_
      refine (hVf.out W HF.out.bel).mono ?_
      rintro e W1 ⟨A4, c4, B4, d4, rfl, q1, q2, q3⟩
      refine ⟨_, rfl, ?_⟩
      replace HF := Lib.hid (HF.out.below q3)
      have Q4 := Lib.hid (InQ.mk q1 q2)
      clear q1 q2 q3 hVf
      refine hK.out _ _ ⟨HF.out.cellN 1 rfl 0 rfl, HF.out.cellN 1 rfl 1 rfl, HF.out.cellN 1 rfl 2 rfl, HF.out.cellN 1 rfl 3 rfl⟩ (fun hHeld => ?_)
      clear hK K
      refine norm_ (a' := ?_) ?_ ?_
      rotate_left
      · show Act.put _ (some 31) _ = _
        simp only [Act.put, List.setIfInBounds_toArray, List.set_cons_zero, List.set_cons_succ]
        rfl
      refine one_ (i := 7) (N := (some 35)) #[true, true, true, true, true, true, true, true, false, false, false, false, false, false] rfl rfl (by kernel_rfl) (by decide) (fun K hK => ?_)
      refine goes_ Try.func18 (by kernel_rfl) rfl #[.slice A f.length c, .slice E vs.length j] (by rfl) rfl rfl (by (try simp only [List.map_toArray, List.map_cons, List.map_nil]); first | done | rfl) ?_
      refine (hRf.out W1 HF.out.bel).mono ?_
      rintro e W2 ⟨A5, c5, B5, d5, rfl, q1, q2, q3⟩
      refine ⟨_, rfl, ?_⟩
      replace HF := Lib.hid (HF.out.below q3)
      replace Q4 := Lib.hid (Q4.out.below q3)
      have Q5 := Lib.hid (InQ.mk q1 q2)
      clear q1 q2 q3 hRf
      refine hK.out _ _ ⟨HF.out.cellN 1 rfl 0 rfl, HF.out.cellN 1 rfl 1 rfl, HF.out.cellN 1 rfl 2 rfl, HF.out.cellN 1 rfl 3 rfl⟩ (fun hHeld => ?_)
      clear hK K
      refine norm_ (a' := ?_) ?_ ?_
      rotate_left
      · show Act.put _ (some 35) _ = _
        simp only [Act.put, List.setIfInBounds_toArray, List.set_cons_zero, List.set_cons_succ]
        rfl
      refine one_ (i := 8) (N := (some 36)) #[true, true, true, true, true, true, true, true, true, false, false, false, false, false] rfl rfl (by kernel_rfl) (by decide) (fun K hK => ?_)
      refine goes_ Try.func50 (by kernel_rfl) rfl #[.agg #[.bool (decide (q.num < 0)), .slice A4 (dg q.num.natAbs).length c4, .slice B4 (dg q.den).length d4], .agg #[.bool (decide (q.num < 0)), .slice A5 (dg q.num.natAbs).length c5, .slice B5 (dg q.den).length d5]] (by rfl) rfl rfl (by (try simp only [List.map_toArray, List.map_cons, List.map_nil]); first | done | rfl) ?_
      refine (hCf.out W2 A4 c4 B4 d4 A5 c5 B5 d5 Q4.out Q5.out).mono ?_
      rintro e W3 ⟨rfl, q3⟩
      refine ⟨_, rfl, ?_⟩
      replace HF := Lib.hid (HF.out.below q3)
      clear q3 hCf Q4 Q5
      refine hK.out _ _ ⟨HF.out.cellN 1 rfl 0 rfl, HF.out.cellN 1 rfl 1 rfl, HF.out.cellN 1 rfl 2 rfl, HF.out.cellN 1 rfl 3 rfl⟩ (fun hHeld => ?_)
      clear hK K
      refine norm_ (a' := ?_) ?_ ?_
      rotate_left
      · show Act.put _ (some 36) _ = _
        simp only [Act.put, List.setIfInBounds_toArray, List.set_cons_zero, List.set_cons_succ]
        rfl
      refine pure_ (i := 9) (N := (some 37)) (v := ?_) (a' := ?_) #[true, true, true, true, true, true, true, true, true, true, false, false, false, false] rfl rfl (by kernel_rfl) (fun _ _ _ h => h) (Or.inl ⟨by rfl, ?_⟩) ?_ ?_
      rotate_left
      · intro w'
        go_simp
        with_reducible rfl
      rotate_left
      · simp only [Act.put, List.setIfInBounds_toArray, List.set_cons_zero, List.set_cons_succ]
        rfl
      refine pure_ (i := 10) (N := (some 38)) (v := ?_) (a' := ?_) #[true, true, true, true, true, true, true, true, true, true, true, false, false, false] rfl rfl (by kernel_rfl) (fun _ _ _ h => h) (Or.inl ⟨by rfl, ?_⟩) ?_ ?_
      rotate_left
      · intro w'
        go_simp
        with_reducible rfl
      rotate_left
      · simp only [Act.put, List.setIfInBounds_toArray, List.set_cons_zero, List.set_cons_succ]
        rfl
      refine one_ (i := 11) (N := (some 39)) #[true, true, true, true, true, true, true, true, true, true, true, true, false, false] rfl rfl (by kernel_rfl) (by decide) (fun K hK => ?_)
      refine goes_ Try.func32 (by kernel_rfl) rfl #[] (by rfl) rfl rfl (by (try simp only [List.map_toArray, List.map_cons, List.map_nil]); first | done | rfl) ?_
      refine (hAw.out W3).mono ?_
      rintro e W4 ⟨rfl, q3⟩
      refine ⟨_, rfl, ?_⟩
      replace HF := Lib.hid (HF.out.below q3)
      clear q3 hAw
      refine hK.out _ _ ⟨HF.out.cellN 1 rfl 0 rfl, HF.out.cellN 1 rfl 1 rfl, HF.out.cellN 1 rfl 2 rfl, HF.out.cellN 1 rfl 3 rfl⟩ (fun hHeld => ?_)
      clear hK K
      refine norm_ (a' := ?_) ?_ ?_
      rotate_left
      · show Act.put _ (some 39) _ = _
        simp only [Act.put, List.setIfInBounds_toArray, List.set_cons_zero, List.set_cons_succ]
        rfl
      refine pure_ (i := 12) (N := (some 40)) (v := ?_) (a' := ?_) #[true, true, true, true, true, true, true, true, true, true, true, true, true, false] rfl rfl (by kernel_rfl) (fun _ _ _ h => h) (Or.inl ⟨by rfl, ?_⟩) ?_ ?_
      rotate_left
      · intro w'
        go_simp
        with_reducible rfl
      rotate_left
      · simp only [Act.put, List.setIfInBounds_toArray, List.set_cons_zero, List.set_cons_succ]
        rfl
      refine pure_ (i := 13) (N := (some 2)) (v := ?_) (a' := ?_) #[true, true, true, true, true, true, true, true, true, true, true, true, true, true] rfl rfl (by kernel_rfl) (fun _ _ _ h => h) (Or.inl ⟨by rfl, ?_⟩) ?_ ?_
      rotate_left
      · intro w'
        go_simp
        with_reducible rfl
      rotate_left
      · simp only [Act.put, List.setIfInBounds_toArray, List.set_cons_zero, List.set_cons_succ]
        rfl
      refine done_ (by kernel_rfl) ?_
      go_wp2
      go_ret
      exact ⟨rfl, HF.out.bel⟩
    · have hge : (vs.length : Int) ≤ v := by omega
      have hnn : ¬ v < 0 := hneg
      clear hnot hneg
      go_wp2_with fail
      have HF_ := Lib.hid HF.out.drew
      clear HF
      have HF := HF_
      clear HF_
      refine start_ (n := 14) (S := fun w' => w'.cell? ⟨g1, 0, none⟩ = some (.slice A f.length c) ∧ w'.cell? ⟨g1, 1, none⟩ = some (.bool s1) ∧ w'.cell? ⟨g1, 2, none⟩ = some (.slice A1 x1.length c1) ∧ w'.cell? ⟨g1, 3, none⟩ = some (.slice B1 y1.length d1)) (ds := []) #[false, false, false, false, false, false, false, false, false, false, false, false, false, false] (by kernel_rfl) rfl rfl ⟨HF.out.cellN 1 rfl 0 rfl, HF.out.cellN 1 rfl 1 rfl, HF.out.cellN 1 rfl 2 rfl, HF.out.cellN 1 rfl 3 rfl⟩ (fun hHeld => ?_)
      generalize World.drew _ = W at *
      refine pure_ (i := 0) (N := (some 28)) (v := ?_) (a' := ?_) #[true, false, false, false, false, false, false, false, false, false, false, false, false, false] rfl rfl (by kernel_rfl) (fun _ _ _ h => h) (Or.inl ⟨by rfl, ?_⟩) ?_ ?_
      rotate_left
      · intro w'
        go_simp
        with_reducible rfl
      rotate_left
      · simp only [Act.put, List.setIfInBounds_toArray, List.set_cons_zero, List.set_cons_succ]
        rfl
      refine pure_ (i := 2) (N := (some 30)) (v := ?_) (a' := ?_) #[true, false, true, false, false, false, false, false, false, false, false, false, false, false] rfl rfl (by kernel_rfl) (fun _ _ _ h => h) (Or.inl ⟨by rfl, ?_⟩) ?_ ?_
      rotate_left
      · intro w'
        go_simp
        with_reducible rfl
      rotate_left
      · simp only [Act.put, List.setIfInBounds_toArray, List.set_cons_zero, List.set_cons_succ]
        rfl
      refine pure_ (i := 4) (N := (some 32)) (v := ?_) (a' := ?_) #[true, false, true, false, true, false, false, false, false, false, false, false, false, false] rfl rfl (by kernel_rfl) (fun _ _ _ h => h) (Or.inl ⟨by rfl, ?_⟩) ?_ ?_
      rotate_left
      · intro w'
        go_simp
        with_reducible rfl
      rotate_left
      · simp only [Act.put, List.setIfInBounds_toArray, List.set_cons_zero, List.set_cons_succ]
        rfl
      refine pure_ (i := 6) (N := (some 34)) (v := ?_) (a' := ?_) #[true, false, true, false, true, false, true, false, false, false, false, false, false, false] rfl rfl (by kernel_rfl) (fun _ _ _ h => h) (Or.inl ⟨by rfl, ?_⟩) ?_ ?_
      rotate_left
      · intro w'
        go_simp
        with_reducible rfl
      rotate_left
      · simp only [Act.put, List.setIfInBounds_toArray, List.set_cons_zero, List.set_cons_succ]
        rfl
      refine take_ (i := 1) (N := (some 29)) (v := ?_) (a' := ?_) #[true, true, true, false, true, false, true, false, false, false, false, false, false, false] rfl rfl (by kernel_rfl) (fun _ _ _ h => h) (Or.inl ⟨by rfl, ?_⟩) hHeld ?_ ?_
      rotate_left
      · rintro w' ⟨s0, s1, s2, s3⟩
        go_simp
        with_reducible rfl
      rotate_left
      · simp only [Act.put, List.setIfInBounds_toArray, List.set_cons_zero, List.set_cons_succ]
        rfl
      refine take_ (i := 5) (N := (some 33)) (v := ?_) (a' := ?_) #[true, true, true, false, true, true, true, false, false, false, false, false, false, false] rfl rfl (by kernel_rfl) (fun _ _ _ h => h) (Or.inl ⟨by rfl, ?_⟩) hHeld ?_ ?_
      rotate_left
      · rintro w' ⟨s0, s1, s2, s3⟩
        go_simp
        with_reducible rfl
      rotate_left
      · simp only [Act.put, List.setIfInBounds_toArray, List.set_cons_zero, List.set_cons_succ]
        rfl
      refine one_ (i := 3) (N := (some 31)) #[true, true, true, true, true, true, true, false, false, false, false, false, false, false] rfl rfl (by kernel_rfl) (by decide) (fun K hK => ?_)
      refine goes_ Try.func17 (by kernel_rfl) rfl #[.slice A f.length c, .slice E vs.length j] (by rfl) rfl rfl (by (try simp only [List.map_toArray, List.map_cons, List.map_nil]); first | done | rfl) ?_
      refine (hVf.out W HF.out.bel).mono ?_
      rintro e W1 ⟨A4, c4, B4, d4, rfl, q1, q2, q3⟩
      refine ⟨_, rfl, ?_⟩
      replace HF := Lib.hid (HF.out.below q3)
      have Q4 := Lib.hid (InQ.mk q1 q2)
      clear q1 q2 q3 hVf
      refine hK.out _ _ ⟨HF.out.cellN 1 rfl 0 rfl, HF.out.cellN 1 rfl 1 rfl, HF.out.cellN 1 rfl 2 rfl, HF.out.cellN 1 rfl 3 rfl⟩ (fun hHeld => ?_)
      clear hK K
      refine norm_ (a' := ?_) ?_ ?_
      rotate_left
      · show Act.put _ (some 31) _ = _
        simp only [Act.put, List.setIfInBounds_toArray, List.set_cons_zero, List.set_cons_succ]
        rfl
      refine one_ (i := 7) (N := (some 35)) #[true, true, true, true, true, true, true, true, false, false, false, false, false, false] rfl rfl (by kernel_rfl) (by decide) (fun K hK => ?_)
      refine goes_ Try.func18 (by kernel_rfl) rfl #[.slice A f.length c, .slice E vs.length j] (by rfl) rfl rfl (by (try simp only [List.map_toArray, List.map_cons, List.map_nil]); first | done | rfl) ?_
      refine (hRf.out W1 HF.out.bel).mono ?_
      rintro e W2 ⟨A5, c5, B5, d5, rfl, q1, q2, q3⟩
      refine ⟨_, rfl, ?_⟩
      replace HF := Lib.hid (HF.out.below q3)
      replace Q4 := Lib.hid (Q4.out.below q3)
      have Q5 := Lib.hid (InQ.mk q1 q2)
      clear q1 q2 q3 hRf
      refine hK.out _ _ ⟨HF.out.cellN 1 rfl 0 rfl, HF.out.cellN 1 rfl 1 rfl, HF.out.cellN 1 rfl 2 rfl, HF.out.cellN 1 rfl 3 rfl⟩ (fun hHeld => ?_)
      clear hK K
      refine norm_ (a' := ?_) ?_ ?_
      rotate_left
      · show Act.put _ (some 35) _ = _
        simp only [Act.put, List.setIfInBounds_toArray, List.set_cons_zero, List.set_cons_succ]
        rfl
      refine one_ (i := 8) (N := (some 36)) #[true, true, true, true, true, true, true, true, true, false, false, false, false, false] rfl rfl (by kernel_rfl) (by decide) (fun K hK => ?_)
      refine goes_ Try.func50 (by kernel_rfl) rfl #[.agg #[.bool (decide (q.num < 0)), .slice A4 (dg q.num.natAbs).length c4, .slice B4 (dg q.den).length d4], .agg #[.bool (decide (q.num < 0)), .slice A5 (dg q.num.natAbs).length c5, .slice B5 (dg q.den).length d5]] (by rfl) rfl rfl (by (try simp only [List.map_toArray, List.map_cons, List.map_nil]); first | done | rfl) ?_
      refine (hCf.out W2 A4 c4 B4 d4 A5 c5 B5 d5 Q4.out Q5.out).mono ?_
      rintro e W3 ⟨rfl, q3⟩
      refine ⟨_, rfl, ?_⟩
      replace HF := Lib.hid (HF.out.below q3)
      clear q3 hCf Q4 Q5
      refine hK.out _ _ ⟨HF.out.cellN 1 rfl 0 rfl, HF.out.cellN 1 rfl 1 rfl, HF.out.cellN 1 rfl 2 rfl, HF.out.cellN 1 rfl 3 rfl⟩ (fun hHeld => ?_)
      clear hK K
      refine norm_ (a' := ?_) ?_ ?_
      rotate_left
      · show Act.put _ (some 36) _ = _
        simp only [Act.put, List.setIfInBounds_toArray, List.set_cons_zero, List.set_cons_succ]
        rfl
      refine pure_ (i := 9) (N := (some 37)) (v := ?_) (a' := ?_) #[true, true, true, true, true, true, true, true, true, true, false, false, false, false] rfl rfl (by kernel_rfl) (fun _ _ _ h => h) (Or.inl ⟨by rfl, ?_⟩) ?_ ?_
      rotate_left
      · intro w'
        go_simp
        with_reducible rfl
      rotate_left
      · simp only [Act.put, List.setIfInBounds_toArray, List.set_cons_zero, List.set_cons_succ]
        rfl
      refine pure_ (i := 10) (N := (some 38)) (v := ?_) (a' := ?_) #[true, true, true, true, true, true, true, true, true, true, true, false, false, false] rfl rfl (by kernel_rfl) (fun _ _ _ h => h) (Or.inl ⟨by rfl, ?_⟩) ?_ ?_
      rotate_left
      · intro w'
        go_simp
        with_reducible rfl
      rotate_left
      · simp only [Act.put, List.setIfInBounds_toArray, List.set_cons_zero, List.set_cons_succ]
        rfl
      refine one_ (i := 11) (N := (some 39)) #[true, true, true, true, true, true, true, true, true, true, true, true, false, false] rfl rfl (by kernel_rfl) (by decide) (fun K hK => ?_)
      refine goes_ Try.func32 (by kernel_rfl) rfl #[] (by rfl) rfl rfl (by (try simp only [List.map_toArray, List.map_cons, List.map_nil]); first | done | rfl) ?_
      refine (hAw.out W3).mono ?_
      rintro e W4 ⟨rfl, q3⟩
      refine ⟨_, rfl, ?_⟩
      replace HF := Lib.hid (HF.out.below q3)
      clear q3 hAw
      refine hK.out _ _ ⟨HF.out.cellN 1 rfl 0 rfl, HF.out.cellN 1 rfl 1 rfl, HF.out.cellN 1 rfl 2 rfl, HF.out.cellN 1 rfl 3 rfl⟩ (fun hHeld => ?_)
      clear hK K
      refine norm_ (a' := ?_) ?_ ?_
      rotate_left
      · show Act.put _ (some 39) _ = _
        simp only [Act.put, List.setIfInBounds_toArray, List.set_cons_zero, List.set_cons_succ]
        rfl
      refine pure_ (i := 12) (N := (some 40)) (v := ?_) (a' := ?_) #[true, true, true, true, true, true, true, true, true, true, true, true, true, false] rfl rfl (by kernel_rfl) (fun _ _ _ h => h) (Or.inl ⟨by rfl, ?_⟩) ?_ ?_
      rotate_left
      · intro w'
        go_simp
        with_reducible rfl
      rotate_left
      · simp only [Act.put, List.setIfInBounds_toArray, List.set_cons_zero, List.set_cons_succ]
        rfl
      refine pure_ (i := 13) (N := (some 2)) (v := ?_) (a' := ?_) #[true, true, true, true, true, true, true, true, true, true, true, true, true, true] rfl rfl (by kernel_rfl) (fun _ _ _ h => h) (Or.inl ⟨by rfl, ?_⟩) ?_ ?_
      rotate_left
      · intro w'
        go_simp
        with_reducible rfl
      rotate_left
      · simp only [Act.put, List.setIfInBounds_toArray, List.set_cons_zero, List.set_cons_succ]
        rfl
      refine done_ (by kernel_rfl) ?_
      go_wp2
      go_ret
      exact ⟨rfl, HF.out.bel⟩
end Go.Proofs.Ytchdoignomidjaa.F
namespace Go.Proofs.Ytchdoignomidjaa.put
open Go.ChangeShapes Go.WideShapes Go.ChangeAt Go.RowKit
open Go.Proofs.Ytchdoignomidjaa.F

set_option maxRecDepth 100000 in
theorem contract (H : Type) (enc : TypeId × Value → H) (W : World) (base : Nat) (args : Array Value) (ds gs : List (DataW H)) (before : List MemPlace)
    (hval : ∀ (j : Nat) t v, Try.f13.params[j]? = some t → args[j]? = some v → Value.okWide Try.prog W .any base t v)
    (hW : DataW.Whole enc Try.prog Try.f13.params.toList Rows.linearPutSpec.vars false W args.toList ds gs before) (hk : Rows.uptoSmall H (ds ++ gs) = true) :
    Calls Try.prog 13 args W fun e W' => ∃ v, e = .returned v ∧ Rows.linearPutSpec.post enc Try.prog Try.f13 false true false false W args v W' := by
  have hW' := hW
  obtain ⟨p, q, hA0, hV, rfl, hfz, hnd⟩ := hW
  have hA : DataW.TrodAll enc Try.prog W 0 (fun _ => true) true Try.f13.params.toList args.toList ds p := hA0
  rw [Try.params13] at hA hval
  obtain ⟨v0, vs0, d0, ds0, p0, q0, hargs, rfl, rfl, h0, r0⟩ := trodAll_cons hA
  obtain ⟨rfl, rfl, rfl⟩ := trodAll_nil r0
  obtain rfl : args = #[v0] := by cases args; simp_all
  obtain ⟨rfl, rfl⟩ := trodVars_none hV
  obtain ⟨cs0, rfl, hz0⟩ := okWide_struct Try.underlying77 (hval 0 77 v0 rfl rfl)
  have k0 := h0
  have lt0 : ∀ x ∈ p0, x.block < W.heap.size := by obtain ⟨m, hm⟩ := k0; exact DataW.trod_lt m _ _ _ hm
  obtain ⟨m0, g0⟩ := h0
  obtain ⟨x, hC0, ok0⟩ := opens_Putting H enc W m0 _ _ g0
  have hb : Rows.uptoBulkAll (H := H) [d0] ≤ 1048576 := by
    have h2 := of_decide_eq_true hk
    simpa only [List.append_nil] using h2
  simp only [Rows.uptoBulkAll] at hb
  obtain ⟨A0, c0, B0, b0, D0, e0, A2, c2, B2, b2, D2, e2, E, j, ee, hc0, hr0, hq0, hc2, hr2, hq2, hcE, hrE⟩ := kPut_cells hC0
  simp only [Value.cells] at ee
  obtain rfl : cs0 = #[.slice A0 x.1.1.1.1.length c0, .bool x.1.1.1.2.1.1, .slice B0 x.1.1.1.2.1.2.length b0, .slice D0 x.1.1.1.2.2.length e0, .int .i64 x.1.1.2, .slice A2 x.1.2.1.length c2, .bool x.1.2.2.1.1, .slice B2 x.1.2.2.1.2.length b2, .slice D2 x.1.2.2.2.length e2, .slice E x.2.length j] := by cases cs0; simp_all
  have w0 : wtA x.1.1.1 + wtA x.1.2 + (x.2.map wt).sum + 2 ≤ Rows.uptoBulk d0 := wt_put ok0
  obtain ⟨da, db, dc, de, -, o1, -, o3, o4⟩ := ok0
  have hlaw := law_Put A0 c0 x.1.1.1.1 x.1.1.1.2.1.1 B0 b0 x.1.1.1.2.1.2 D0 e0 x.1.1.1.2.2 x.1.1.2 A2 c2 x.1.2.1 x.1.2.2.1.1 B2 b2 x.1.2.2.1.2 D2 e2 x.1.2.2.2 E j x.2 W hr0 hc0 hq0 hr2 hc2 hq2 hrE hcE (good_aff o1) (good_aff o3) (fun y hy => (ok_mem o4 hy).elim fun _ h => good_rat h) (by show wtA x.1.1.1 + wtA x.1.2 + _ + 2 ≤ _; omega)
  refine hlaw.mono fun e W' ⟨he, bel⟩ => ?_
  subst he
  exact ⟨_, rfl, _, _, _, [], _, [], hW', trodAll_mk1 (shut_bool Try.underlying4 _), (trodAll_cons_mk (Below.trod prog_laid (by kernel_rfl) (of_decide_eq_true (by kernel_rfl)) k0 bel lt0) trodAll_mk0), rfl, bel.frame _, fun h => by cases h⟩

set_option maxRecDepth 100000 in
theorem lifted (os : Os) (started : os.Started) (H : Type) (enc : TypeId × Value → H) (F : Stop.Interp) :
    ReturnsInHanded {} Try.checked os 13 .any ((Rows.OpenSpec.upto Rows.linearPutSpec).pre6 enc Try.prog Try.f13 Rows.linearPutUptoRow.domain false) (((Rows.OpenSpec.upto Rows.linearPutSpec).at F).post enc Try.prog Try.f13 false true false false) := by
  refine returnsInHanded_of_cond (C := Try.checked) (s := Rows.OpenSpec.upto Rows.linearPutSpec) (k := Rows.uptoSmall) rfl prog_own started (by kernel_rfl) Try.func13
    (OpenSpec.witness (enc := enc) (C := Try.checked) (s := Rows.OpenSpec.upto Rows.linearPutSpec) (k := Rows.uptoSmall) rfl false ⟨#[], #[.agg #[.slice none 0 0, .bool false, .slice none 0 0, .slice none 0 0, .int .i64 0, .slice none 0 0, .bool false, .slice none 0 0, .slice none 0 0, .slice none 0 0]], []⟩ 8 (by kernel_rfl) (by kernel_rfl) (by kernel_rfl)
      (x := ([.agg [.agg [.nil, .agg [.agg [.lit (.bool false), .nil], .nil]], .lit (.int .i64 0), .agg [.nil, .agg [.agg [.lit (.bool false), .nil], .nil]], .nil]], [], [])) (by kernel_rfl) rfl (by kernel_rfl)) ?_
  intro W base args ds gs before hval hW _ hk _
  exact contract H enc W base args ds gs before hval hW hk

theorem over : Rows.LinearPutUptoSaid :=
  OpenClaim.holds_of_cond 13 Try.f13 rfl rfl rfl rfl rfl rfl rfl ⟨rfl, rfl, rfl, rfl, rfl⟩ rfl rfl rfl rfl rfl (by kernel_rfl) Try.func13 (by kernel_rfl)
    (of_decide_eq_true (by kernel_rfl)) (by unfold Func.isWrapper; first | (rw [if_pos (by decide +kernel)]; kernel_rfl) | (rw [if_neg (by decide +kernel)]; exact ⟨rfl, rfl⟩))
    (fun os started H enc _ F => lifted os started H enc F)
end Go.Proofs.Ytchdoignomidjaa.put
namespace Go.Proofs.Ytchdoignomidjaa
theorem linearPut_holds : Rows.LinearPutUptoSaid := put.over
#print axioms linearPut_holds
end Go.Proofs.Ytchdoignomidjaa

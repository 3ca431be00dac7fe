/- LinearOrders: for every three forms of bulk at most 1048576 together, Cmp tells a total order that sums keep; the arguments read as they did. -/
import Derived.Test.YtchdoignomidjaaSev
set_option linter.unusedVariables false
set_option linter.unusedSimpArgs false
namespace Go.Proofs.Ytchdoignomidjaa.F
open Go.RowKit Go.Shelf Go.Proofs.YtchdoignomidjaaW.PrintLast

set_option maxHeartbeats 8000000 in
set_option maxRecDepth 100000 in
theorem law_Orders (E : Option Addr) (j : Nat) (f : List (Int × RatD)) (G : Option Addr) (l : Nat) (g : List (Int × RatD)) (K : Option Addr) (o : Nat) (h : List (Int × RatD)) (w : World) (hr : kMono.Row w E f) (hc : f.length ≤ j) (kr : kMono.Row w G g) (kc : g.length ≤ l) (lr : kMono.Row w K h) (lc : h.length ≤ o)
    (hf : ∀ m ∈ f, Good (wt m.2) m.2) (hg : ∀ m ∈ g, Good (wt m.2) m.2) (hh : ∀ m ∈ h, Good (wt m.2) m.2) (hb : (f.map wtm).sum + (g.map wtm).sum + (h.map wtm).sum ≤ 1048576) :
    Calls Try.prog 8 #[.slice E f.length j, .slice G g.length l, .slice K h.length o] w fun e w' => e = .returned (.bool true) ∧ Below w.heap.size w w' := by
  have hlf : f.length * 7 ≤ (f.map wtm).sum := len_le_sum f fun m _ => wtm7 m
  have hlg : g.length * 7 ≤ (g.map wtm).sum := len_le_sum g fun m _ => wtm7 m
  have hlh : h.length * 7 ≤ (h.map wtm).sum := len_le_sum h fun m _ => wtm7 m
  have hmf := mf_fval hf
  have hmg := mf_fval hg
  have hmh := mf_fval hh
  have R : FRaw w E j f := FRaw.of hr hc hf (by omega)
  have T : FRaw w G l g := FRaw.of kr kc hg (by omega)
  have U : FRaw w K o h := FRaw.of lr lc hh (by omega)
  have al := nform_len (fval f ++ fval h)
  rw [List.length_append, fval_length, fval_length] at al
  have am := mf_nform (fval f ++ fval h)
  rw [mf_append] at am
  have bl := nform_len (fval g ++ fval h)
  rw [List.length_append, fval_length, fval_length] at bl
  have bm := mf_nform (fval g ++ fval h)
  rw [mf_append] at bm
  have nl := nform_len (fval f)
  rw [fval_length] at nl
  have ml := nform_len (fval g)
  rw [fval_length] at ml
  have wa := wtm_can (nform (fval f ++ fval h))
  have wb := wtm_can (nform (fval g ++ fval h))
  have hC1 := Lib.hid (fun (W : World) (hb : Below w.heap.size w W) => linear_Cmp E j f G l g W (R.below hb) (T.below hb) (by omega))
  have hC2 := Lib.hid (fun (W : World) (hb : Below w.heap.size w W) => linear_Cmp G l g K o h W (T.below hb) (U.below hb) (by omega))
  have hC3 := Lib.hid (fun (W : World) (hb : Below w.heap.size w W) => linear_Cmp G l g E j f W (T.below hb) (R.below hb) (by omega))
  rw [ord_flip] at hC3
  have hC4 := Lib.hid (fun (W : World) (hb : Below w.heap.size w W) => linear_Cmp E j f K o h W (R.below hb) (U.below hb) (by omega))
  have hA1 := Lib.hid (fun (W : World) (hb : Below w.heap.size w W) => linear_Add E j f K o h W (R.below hb) (U.below hb) (by omega))
  have hA2 := Lib.hid (fun (W : World) (hb : Below w.heap.size w W) => linear_Add G l g K o h W (T.below hb) (U.below hb) (by omega))
  have hC5 := Lib.hid (show ∀ (W : World) (A1 : Option Addr) (c1 : Nat) (A2 : Option Addr) (c2 : Nat), FIn W A1 c1 (nform (fval f ++ fval h)) → FIn W A2 c2 (nform (fval g ++ fval h)) → Calls Try.prog 33 #[.slice A1 (nform (fval f ++ fval h)).length c1, .slice A2 (nform (fval g ++ fval h)).length c2] W (ToldZ W (fsg (nform (fval f ++ smul (-1) (fval g))))) from fun W A1 c1 A2 c2 k1 k2 => by
    have e := linear_Cmp A1 c1 _ A2 c2 _ W (k1.raw (by omega)) (k2.raw (by omega)) (by rw [fval_can, List.length_map]; omega)
    rw [List.length_map, List.length_map, fval_can, fval_can, ord_add] at e
    exact e)
  have hN1 := Lib.hid (fun (W : World) (hb : Below w.heap.size w W) => linear_Norm f.length E j f W (Nat.le_refl _) (R.below hb))
  have hN2 := Lib.hid (fun (W : World) (hb : Below w.heap.size w W) => linear_Norm g.length G l g W (Nat.le_refl _) (T.below hb))
  have hU1 := Lib.hid (fun (W : World) => law_unit 1 W)
  have hU2 := Lib.hid (fun (W : World) => law_unit 2 W)
  have hC6 := Lib.hid (show ∀ (W : World) (A1 : Option Addr) (c1 : Nat) (A2 : Option Addr) (c2 : Nat), FIn W A1 c1 [(1, 1)] → FIn W A2 c2 [(2, 1)] → Calls Try.prog 33 #[.slice A1 1 c1, .slice A2 1 c2] W (ToldZ W 1) from fun W A1 c1 A2 c2 k1 k2 => by
    have hm1 : mu (1 : Rat) ≤ 1 := mu_int (n := 1) (by decide)
    have e1 : mf [((1 : Int), (1 : Rat))] ≤ 2 := by show mu 1 + 1 + 0 ≤ 2; omega
    have e2 : mf [((2 : Int), (1 : Rat))] ≤ 2 := by show mu 1 + 1 + 0 ≤ 2; omega
    have e3 := wtm_can [((1 : Int), (1 : Rat))]
    have e4 : List.length [((1 : Int), (1 : Rat))] = 1 := rfl
    have e5 : List.length [((2 : Int), (1 : Rat))] = 1 := rfl
    have e := linear_Cmp A1 c1 _ A2 c2 _ W (k1.raw (by omega)) (k2.raw (by omega)) (by rw [fval_can, List.length_map]; omega)
    rw [fval_can, fval_can, ord_units] at e
    exact e)
  have hz := fsg_rng (nform (fval f ++ smul (-1) (fval g)))
  have ht := ord_trans (fval f) (fval g) (fval h)
  have hs : decide (nform (fval f) = nform (fval g)) = decide (fsg (nform (fval f ++ smul (-1) (fval g))) = 0) := decide_eq_decide.2 (ord_same _ _)
  have al' : (nform (fval f ++ fval h)).length ≤ 1048576 := by omega
  have bl' : (nform (fval g ++ fval h)).length ≤ 1048576 := by omega
  have nl' : (nform (fval f)).length ≤ 1048576 := by omega
  have ml' : (nform (fval g)).length ≤ 1048576 := by omega
  clear hr hc kr kc lr lc hf hg hh hb hlf hlg hlh hmf hmg hmh R T U al am bl bm nl ml wa wb
  generalize fsg (nform (fval f ++ smul (-1) (fval g))) = z1 at *
  generalize fsg (nform (fval g ++ smul (-1) (fval h))) = z2 at *
  generalize fsg (nform (fval f ++ smul (-1) (fval h))) = z3 at *
  generalize nform (fval f ++ fval h) = a at *
  generalize nform (fval g ++ fval h) = b at *
  generalize nform (fval f) = n at *
  generalize nform (fval g) = m at *
  obtain ⟨y1, hy1⟩ : ∃ y, y = -z1 := ⟨_, rfl⟩
  rw [← hy1] at hC3
  have HB := Lib.hid (Below.refl w.heap.size w)
  have ht' := Lib.hid ht
  obtain ⟨sm, hsm⟩ : ∃ b, b = decide (z1 = 0) := ⟨_, rfl⟩
  have hSm := Lib.hid (fun (W : World) (A3 : Option Addr) (c3 : Nat) (A4 : Option Addr) (c4 : Nat) (k1 : FIn W A3 c3 n) (k2 : FIn W A4 c4 m) => same_FormB A3 c3 A4 c4 n m W k1 k2 (by omega) (by omega))
  rw [hs, ← hsm] at hSm
  have hz' : Hid ((z1 = -1 ∧ y1 = 1 ∧ sm = false) ∨ (z1 = 0 ∧ y1 = 0 ∧ sm = true) ∨ (z1 = 1 ∧ y1 = -1 ∧ sm = false)) := Lib.hid (by
    have e : z1 = -1 ∨ z1 = 0 ∨ z1 = 1 := by omega
    rcases e with e | e | e
    · exact .inl ⟨e, by omega, by rw [hsm, e]; rfl⟩
    · exact .inr (.inl ⟨e, by omega, by rw [hsm, e]; rfl⟩)
    · exact .inr (.inr ⟨e, by omega, by rw [hsm, e]; rfl⟩))
  clear hsm
  clear ht hs hz hy1
  go_enter Try.func8, Try.ntmps8
  go_wp2_with fail
  refine (hC1.out w HB.out).mono ?_
  rintro e W1 ⟨rfl, h2⟩
  replace HB := Lib.hid (HB.out.trans (h2.mono HB.out.size))
  clear h2 hC1
  go_wp2_with fail
  refine (hC2.out W1 HB.out).mono ?_
  rintro e W2 ⟨rfl, h2⟩
  replace HB := Lib.hid (HB.out.trans (h2.mono HB.out.size))
  clear h2 hC2
  rcases hz'.out with ⟨rfl, rfl, rfl⟩ | ⟨rfl, rfl, rfl⟩ | ⟨rfl, rfl, rfl⟩
  · clear hz'
    by_cases hy : z2 ≤ 0
    · have h3 : ¬ 0 < z3 := by have := ht'.out (by omega) hy; omega
      go_wp2_with fail
      refine (hC3.out _ HB.out).mono ?_
      rintro e W3 ⟨rfl, h2⟩
      replace HB := Lib.hid (HB.out.trans (h2.mono HB.out.size))
      clear h2 hC3
      go_wp2_with fail
      refine (hC4.out _ HB.out).mono ?_
      rintro e W4 ⟨rfl, h2⟩
      replace HB := Lib.hid (HB.out.trans (h2.mono HB.out.size))
      clear h2 hC4
      go_wp2_with fail
      refine (hA1.out _ HB.out).mono ?_
      rintro e W5 ⟨v_, rfl, h1, h2⟩
      obtain ⟨A1, c1, rfl, h3⟩ := h1.fin
      have Q1 := Lib.hid h3
      replace HB := Lib.hid (HB.out.trans (h2.mono HB.out.size))
      clear h2 h1 h3 hA1
      go_wp2_with fail
      refine (hA2.out _ HB.out).mono ?_
      rintro e W6 ⟨v_, rfl, h1, h2⟩
      obtain ⟨A2, c2, rfl, h3⟩ := h1.fin
      have Q2 := Lib.hid h3
      replace Q1 := Lib.hid (Q1.out.below h2)
      replace HB := Lib.hid (HB.out.trans (h2.mono HB.out.size))
      clear h2 h1 h3 hA2
      go_wp2_with fail
      refine (hC5.out _ A1 c1 A2 c2 Q1.out Q2.out).mono ?_
      rintro e W7 ⟨rfl, h2⟩
      replace HB := Lib.hid (HB.out.trans (h2.mono HB.out.size))
      clear h2 Q1 Q2 hC5
      go_wp2_with fail
      refine (hN1.out _ HB.out).mono ?_
      rintro e W8 ⟨v_, rfl, h1, h2⟩
      obtain ⟨A3, c3, rfl, h3⟩ := h1.fin
      have Q3 := Lib.hid h3
      replace HB := Lib.hid (HB.out.trans (h2.mono HB.out.size))
      clear h2 h1 h3 hN1
      go_wp2_with fail
      refine (hN2.out _ HB.out).mono ?_
      rintro e W9 ⟨v_, rfl, h1, h2⟩
      obtain ⟨A4, c4, rfl, h3⟩ := h1.fin
      have Q4 := Lib.hid h3
      replace Q3 := Lib.hid (Q3.out.below h2)
      replace HB := Lib.hid (HB.out.trans (h2.mono HB.out.size))
      clear h2 h1 h3 hN2
      have hF := Lib.hid (hSm.out W9 A3 c3 A4 c4 Q3.out Q4.out)
      go_wp2_with fail
      refine (hF.out).mono ?_
      rintro e W10 ⟨rfl, h2⟩
      replace HB := Lib.hid (HB.out.trans (h2.mono HB.out.size))
      clear h2 Q3 Q4 hF
      go_wp2_with fail
      refine (hU1.out _).mono ?_
      rintro e W11 ⟨v_, rfl, h1, h2⟩
      obtain ⟨A5, c5, rfl, h3⟩ := h1.fin
      have Q5 := Lib.hid h3
      replace HB := Lib.hid (HB.out.trans (h2.mono HB.out.size))
      clear h2 h1 h3 hU1
      go_wp2_with fail
      refine (hU2.out _).mono ?_
      rintro e W12 ⟨v_, rfl, h1, h2⟩
      obtain ⟨A6, c6, rfl, h3⟩ := h1.fin
      have Q6 := Lib.hid h3
      replace Q5 := Lib.hid (Q5.out.below h2)
      replace HB := Lib.hid (HB.out.trans (h2.mono HB.out.size))
      clear h2 h1 h3 hU2
      simp only [List.length_cons, List.length_nil, Nat.zero_add]
      go_wp2_with fail
      refine (hC6.out _ A5 c5 A6 c6 Q5.out Q6.out).mono ?_
      rintro e W13 ⟨rfl, h2⟩
      replace HB := Lib.hid (HB.out.trans (h2.mono HB.out.size))
      clear h2 Q5 Q6 hC6
      go_wp2
      go_ret
      exact ⟨rfl, HB.out⟩
    · clear ht' hC4
      go_wp2_with fail
      refine (hC3.out _ HB.out).mono ?_
      rintro e W3 ⟨rfl, h2⟩
      replace HB := Lib.hid (HB.out.trans (h2.mono HB.out.size))
      clear h2 hC3
      go_wp2_with fail
      refine (hA1.out _ HB.out).mono ?_
      rintro e W4 ⟨v_, rfl, h1, h2⟩
      obtain ⟨A1, c1, rfl, h3⟩ := h1.fin
      have Q1 := Lib.hid h3
      replace HB := Lib.hid (HB.out.trans (h2.mono HB.out.size))
      clear h2 h1 h3 hA1
      go_wp2_with fail
      refine (hA2.out _ HB.out).mono ?_
      rintro e W5 ⟨v_, rfl, h1, h2⟩
      obtain ⟨A2, c2, rfl, h3⟩ := h1.fin
      have Q2 := Lib.hid h3
      replace Q1 := Lib.hid (Q1.out.below h2)
      replace HB := Lib.hid (HB.out.trans (h2.mono HB.out.size))
      clear h2 h1 h3 hA2
      go_wp2_with fail
      refine (hC5.out _ A1 c1 A2 c2 Q1.out Q2.out).mono ?_
      rintro e W6 ⟨rfl, h2⟩
      replace HB := Lib.hid (HB.out.trans (h2.mono HB.out.size))
      clear h2 Q1 Q2 hC5
      go_wp2_with fail
      refine (hN1.out _ HB.out).mono ?_
      rintro e W7 ⟨v_, rfl, h1, h2⟩
      obtain ⟨A3, c3, rfl, h3⟩ := h1.fin
      have Q3 := Lib.hid h3
      replace HB := Lib.hid (HB.out.trans (h2.mono HB.out.size))
      clear h2 h1 h3 hN1
      go_wp2_with fail
      refine (hN2.out _ HB.out).mono ?_
      rintro e W8 ⟨v_, rfl, h1, h2⟩
      obtain ⟨A4, c4, rfl, h3⟩ := h1.fin
      have Q4 := Lib.hid h3
      replace Q3 := Lib.hid (Q3.out.below h2)
      replace HB := Lib.hid (HB.out.trans (h2.mono HB.out.size))
      clear h2 h1 h3 hN2
      have hF := Lib.hid (hSm.out W8 A3 c3 A4 c4 Q3.out Q4.out)
      go_wp2_with fail
      refine (hF.out).mono ?_
      rintro e W9 ⟨rfl, h2⟩
      replace HB := Lib.hid (HB.out.trans (h2.mono HB.out.size))
      clear h2 Q3 Q4 hF
      go_wp2_with fail
      refine (hU1.out _).mono ?_
      rintro e W10 ⟨v_, rfl, h1, h2⟩
      obtain ⟨A5, c5, rfl, h3⟩ := h1.fin
      have Q5 := Lib.hid h3
      replace HB := Lib.hid (HB.out.trans (h2.mono HB.out.size))
      clear h2 h1 h3 hU1
      go_wp2_with fail
      refine (hU2.out _).mono ?_
      rintro e W11 ⟨v_, rfl, h1, h2⟩
      obtain ⟨A6, c6, rfl, h3⟩ := h1.fin
      have Q6 := Lib.hid h3
      replace Q5 := Lib.hid (Q5.out.below h2)
      replace HB := Lib.hid (HB.out.trans (h2.mono HB.out.size))
      clear h2 h1 h3 hU2
      simp only [List.length_cons, List.length_nil, Nat.zero_add]
      go_wp2_with fail
      refine (hC6.out _ A5 c5 A6 c6 Q5.out Q6.out).mono ?_
      rintro e W12 ⟨rfl, h2⟩
      replace HB := Lib.hid (HB.out.trans (h2.mono HB.out.size))
      clear h2 Q5 Q6 hC6
      go_wp2
      go_ret
      exact ⟨rfl, HB.out⟩
  · clear hz'
    by_cases hy : z2 ≤ 0
    · have h3 : ¬ 0 < z3 := by have := ht'.out (by omega) hy; omega
      go_wp2_with fail
      refine (hC3.out _ HB.out).mono ?_
      rintro e W3 ⟨rfl, h2⟩
      replace HB := Lib.hid (HB.out.trans (h2.mono HB.out.size))
      clear h2 hC3
      go_wp2_with fail
      refine (hC4.out _ HB.out).mono ?_
      rintro e W4 ⟨rfl, h2⟩
      replace HB := Lib.hid (HB.out.trans (h2.mono HB.out.size))
      clear h2 hC4
      go_wp2_with fail
      refine (hA1.out _ HB.out).mono ?_
      rintro e W5 ⟨v_, rfl, h1, h2⟩
      obtain ⟨A1, c1, rfl, h3⟩ := h1.fin
      have Q1 := Lib.hid h3
      replace HB := Lib.hid (HB.out.trans (h2.mono HB.out.size))
      clear h2 h1 h3 hA1
      go_wp2_with fail
      refine (hA2.out _ HB.out).mono ?_
      rintro e W6 ⟨v_, rfl, h1, h2⟩
      obtain ⟨A2, c2, rfl, h3⟩ := h1.fin
      have Q2 := Lib.hid h3
      replace Q1 := Lib.hid (Q1.out.below h2)
      replace HB := Lib.hid (HB.out.trans (h2.mono HB.out.size))
      clear h2 h1 h3 hA2
      go_wp2_with fail
      refine (hC5.out _ A1 c1 A2 c2 Q1.out Q2.out).mono ?_
      rintro e W7 ⟨rfl, h2⟩
      replace HB := Lib.hid (HB.out.trans (h2.mono HB.out.size))
      clear h2 Q1 Q2 hC5
      go_wp2_with fail
      refine (hN1.out _ HB.out).mono ?_
      rintro e W8 ⟨v_, rfl, h1, h2⟩
      obtain ⟨A3, c3, rfl, h3⟩ := h1.fin
      have Q3 := Lib.hid h3
      replace HB := Lib.hid (HB.out.trans (h2.mono HB.out.size))
      clear h2 h1 h3 hN1
      go_wp2_with fail
      refine (hN2.out _ HB.out).mono ?_
      rintro e W9 ⟨v_, rfl, h1, h2⟩
      obtain ⟨A4, c4, rfl, h3⟩ := h1.fin
      have Q4 := Lib.hid h3
      replace Q3 := Lib.hid (Q3.out.below h2)
      replace HB := Lib.hid (HB.out.trans (h2.mono HB.out.size))
      clear h2 h1 h3 hN2
      have hF := Lib.hid (hSm.out W9 A3 c3 A4 c4 Q3.out Q4.out)
      go_wp2_with fail
      refine (hF.out).mono ?_
      rintro e W10 ⟨rfl, h2⟩
      replace HB := Lib.hid (HB.out.trans (h2.mono HB.out.size))
      clear h2 Q3 Q4 hF
      go_wp2_with fail
      refine (hU1.out _).mono ?_
      rintro e W11 ⟨v_, rfl, h1, h2⟩
      obtain ⟨A5, c5, rfl, h3⟩ := h1.fin
      have Q5 := Lib.hid h3
      replace HB := Lib.hid (HB.out.trans (h2.mono HB.out.size))
      clear h2 h1 h3 hU1
      go_wp2_with fail
      refine (hU2.out _).mono ?_
      rintro e W12 ⟨v_, rfl, h1, h2⟩
      obtain ⟨A6, c6, rfl, h3⟩ := h1.fin
      have Q6 := Lib.hid h3
      replace Q5 := Lib.hid (Q5.out.below h2)
      replace HB := Lib.hid (HB.out.trans (h2.mono HB.out.size))
      clear h2 h1 h3 hU2
      simp only [List.length_cons, List.length_nil, Nat.zero_add]
      go_wp2_with fail
      refine (hC6.out _ A5 c5 A6 c6 Q5.out Q6.out).mono ?_
      rintro e W13 ⟨rfl, h2⟩
      replace HB := Lib.hid (HB.out.trans (h2.mono HB.out.size))
      clear h2 Q5 Q6 hC6
      go_wp2
      go_ret
      exact ⟨rfl, HB.out⟩
    · clear ht' hC4
      go_wp2_with fail
      refine (hC3.out _ HB.out).mono ?_
      rintro e W3 ⟨rfl, h2⟩
      replace HB := Lib.hid (HB.out.trans (h2.mono HB.out.size))
      clear h2 hC3
      go_wp2_with fail
      refine (hA1.out _ HB.out).mono ?_
      rintro e W4 ⟨v_, rfl, h1, h2⟩
      obtain ⟨A1, c1, rfl, h3⟩ := h1.fin
      have Q1 := Lib.hid h3
      replace HB := Lib.hid (HB.out.trans (h2.mono HB.out.size))
      clear h2 h1 h3 hA1
      go_wp2_with fail
      refine (hA2.out _ HB.out).mono ?_
      rintro e W5 ⟨v_, rfl, h1, h2⟩
      obtain ⟨A2, c2, rfl, h3⟩ := h1.fin
      have Q2 := Lib.hid h3
      replace Q1 := Lib.hid (Q1.out.below h2)
      replace HB := Lib.hid (HB.out.trans (h2.mono HB.out.size))
      clear h2 h1 h3 hA2
      go_wp2_with fail
      refine (hC5.out _ A1 c1 A2 c2 Q1.out Q2.out).mono ?_
      rintro e W6 ⟨rfl, h2⟩
      replace HB := Lib.hid (HB.out.trans (h2.mono HB.out.size))
      clear h2 Q1 Q2 hC5
      go_wp2_with fail
      refine (hN1.out _ HB.out).mono ?_
      rintro e W7 ⟨v_, rfl, h1, h2⟩
      obtain ⟨A3, c3, rfl, h3⟩ := h1.fin
      have Q3 := Lib.hid h3
      replace HB := Lib.hid (HB.out.trans (h2.mono HB.out.size))
      clear h2 h1 h3 hN1
      go_wp2_with fail
      refine (hN2.out _ HB.out).mono ?_
      rintro e W8 ⟨v_, rfl, h1, h2⟩
      obtain ⟨A4, c4, rfl, h3⟩ := h1.fin
      have Q4 := Lib.hid h3
      replace Q3 := Lib.hid (Q3.out.below h2)
      replace HB := Lib.hid (HB.out.trans (h2.mono HB.out.size))
      clear h2 h1 h3 hN2
      have hF := Lib.hid (hSm.out W8 A3 c3 A4 c4 Q3.out Q4.out)
      go_wp2_with fail
      refine (hF.out).mono ?_
      rintro e W9 ⟨rfl, h2⟩
      replace HB := Lib.hid (HB.out.trans (h2.mono HB.out.size))
      clear h2 Q3 Q4 hF
      go_wp2_with fail
      refine (hU1.out _).mono ?_
      rintro e W10 ⟨v_, rfl, h1, h2⟩
      obtain ⟨A5, c5, rfl, h3⟩ := h1.fin
      have Q5 := Lib.hid h3
      replace HB := Lib.hid (HB.out.trans (h2.mono HB.out.size))
      clear h2 h1 h3 hU1
      go_wp2_with fail
      refine (hU2.out _).mono ?_
      rintro e W11 ⟨v_, rfl, h1, h2⟩
      obtain ⟨A6, c6, rfl, h3⟩ := h1.fin
      have Q6 := Lib.hid h3
      replace Q5 := Lib.hid (Q5.out.below h2)
      replace HB := Lib.hid (HB.out.trans (h2.mono HB.out.size))
      clear h2 h1 h3 hU2
      simp only [List.length_cons, List.length_nil, Nat.zero_add]
      go_wp2_with fail
      refine (hC6.out _ A5 c5 A6 c6 Q5.out Q6.out).mono ?_
      rintro e W12 ⟨rfl, h2⟩
      replace HB := Lib.hid (HB.out.trans (h2.mono HB.out.size))
      clear h2 Q5 Q6 hC6
      go_wp2
      go_ret
      exact ⟨rfl, HB.out⟩
  · clear hz' ht' hC4
    go_wp2_with fail
    refine (hC3.out _ HB.out).mono ?_
    rintro e W3 ⟨rfl, h2⟩
    replace HB := Lib.hid (HB.out.trans (h2.mono HB.out.size))
    clear h2 hC3
    go_wp2_with fail
    refine (hA1.out _ HB.out).mono ?_
    rintro e W4 ⟨v_, rfl, h1, h2⟩
    obtain ⟨A1, c1, rfl, h3⟩ := h1.fin
    have Q1 := Lib.hid h3
    replace HB := Lib.hid (HB.out.trans (h2.mono HB.out.size))
    clear h2 h1 h3 hA1
    go_wp2_with fail
    refine (hA2.out _ HB.out).mono ?_
    rintro e W5 ⟨v_, rfl, h1, h2⟩
    obtain ⟨A2, c2, rfl, h3⟩ := h1.fin
    have Q2 := Lib.hid h3
    replace Q1 := Lib.hid (Q1.out.below h2)
    replace HB := Lib.hid (HB.out.trans (h2.mono HB.out.size))
    clear h2 h1 h3 hA2
    go_wp2_with fail
    refine (hC5.out _ A1 c1 A2 c2 Q1.out Q2.out).mono ?_
    rintro e W6 ⟨rfl, h2⟩
    replace HB := Lib.hid (HB.out.trans (h2.mono HB.out.size))
    clear h2 Q1 Q2 hC5
    go_wp2_with fail
    refine (hN1.out _ HB.out).mono ?_
    rintro e W7 ⟨v_, rfl, h1, h2⟩
    obtain ⟨A3, c3, rfl, h3⟩ := h1.fin
    have Q3 := Lib.hid h3
    replace HB := Lib.hid (HB.out.trans (h2.mono HB.out.size))
    clear h2 h1 h3 hN1
    go_wp2_with fail
    refine (hN2.out _ HB.out).mono ?_
    rintro e W8 ⟨v_, rfl, h1, h2⟩
    obtain ⟨A4, c4, rfl, h3⟩ := h1.fin
    have Q4 := Lib.hid h3
    replace Q3 := Lib.hid (Q3.out.below h2)
    replace HB := Lib.hid (HB.out.trans (h2.mono HB.out.size))
    clear h2 h1 h3 hN2
    have hF := Lib.hid (hSm.out W8 A3 c3 A4 c4 Q3.out Q4.out)
    go_wp2_with fail
    refine (hF.out).mono ?_
    rintro e W9 ⟨rfl, h2⟩
    replace HB := Lib.hid (HB.out.trans (h2.mono HB.out.size))
    clear h2 Q3 Q4 hF
    go_wp2_with fail
    refine (hU1.out _).mono ?_
    rintro e W10 ⟨v_, rfl, h1, h2⟩
    obtain ⟨A5, c5, rfl, h3⟩ := h1.fin
    have Q5 := Lib.hid h3
    replace HB := Lib.hid (HB.out.trans (h2.mono HB.out.size))
    clear h2 h1 h3 hU1
    go_wp2_with fail
    refine (hU2.out _).mono ?_
    rintro e W11 ⟨v_, rfl, h1, h2⟩
    obtain ⟨A6, c6, rfl, h3⟩ := h1.fin
    have Q6 := Lib.hid h3
    replace Q5 := Lib.hid (Q5.out.below h2)
    replace HB := Lib.hid (HB.out.trans (h2.mono HB.out.size))
    clear h2 h1 h3 hU2
    simp only [List.length_cons, List.length_nil, Nat.zero_add]
    go_wp2_with fail
    refine (hC6.out _ A5 c5 A6 c6 Q5.out Q6.out).mono ?_
    rintro e W12 ⟨rfl, h2⟩
    replace HB := Lib.hid (HB.out.trans (h2.mono HB.out.size))
    clear h2 Q5 Q6 hC6
    go_wp2
    go_ret
    exact ⟨rfl, HB.out⟩
end Go.Proofs.Ytchdoignomidjaa.F
namespace Go.Proofs.Ytchdoignomidjaa.orders
open Go.ChangeShapes Go.WideShapes Go.ChangeAt Go.RowKit
open Go.Proofs.Ytchdoignomidjaa.F

set_option maxRecDepth 100000 in
theorem contract (H : Type) (enc : TypeId × Value → H) (W : World) (base : Nat) (args : Array Value) (ds gs : List (DataW H)) (before : List MemPlace)
    (hval : ∀ (j : Nat) t v, Try.f8.params[j]? = some t → args[j]? = some v → Value.okWide Try.prog W .any base t v)
    (hW : DataW.Whole enc Try.prog Try.f8.params.toList Rows.linearOrdersSpec.vars false W args.toList ds gs before) (hk : Rows.uptoSmall H (ds ++ gs) = true) :
    Calls Try.prog 8 args W fun e W' => ∃ v, e = .returned v ∧ Rows.linearOrdersSpec.post enc Try.prog Try.f8 false true false false W args v W' := by
  have hW' := hW
  obtain ⟨p, q, hA0, hV, rfl, hfz, hnd⟩ := hW
  have hA : DataW.TrodAll enc Try.prog W 0 (fun _ => true) true Try.f8.params.toList args.toList ds p := hA0
  rw [Try.params8] at hA hval
  obtain ⟨v0, vs0, d0, ds0, p0, q0, hargs, rfl, rfl, h0, r0⟩ := trodAll_cons hA
  obtain ⟨v1, vs1, d1, ds1, p1, q1, rfl, rfl, rfl, h1, r1⟩ := trodAll_cons r0
  obtain ⟨v2, vs2, d2, ds2, p2, q2, rfl, rfl, rfl, h2, r2⟩ := trodAll_cons r1
  obtain ⟨rfl, rfl, rfl⟩ := trodAll_nil r2
  obtain rfl : args = #[v0, v1, v2] := by cases args; simp_all
  obtain ⟨rfl, rfl⟩ := trodVars_none hV
  obtain ⟨a0, len0, cap0, rfl⟩ := okWide_slice Try.underlying23 (hval 0 23 v0 rfl rfl)
  have k0 := h0
  have lt0 : ∀ x ∈ p0, x.block < W.heap.size := by obtain ⟨m, hm⟩ := k0; exact DataW.trod_lt m _ _ _ hm
  obtain ⟨m0, g0⟩ := h0
  obtain ⟨f, hC0, ok0⟩ := opens_Form H enc W m0 _ _ g0
  obtain ⟨a1, len1, cap1, rfl⟩ := okWide_slice Try.underlying23 (hval 1 23 v1 rfl rfl)
  have k1 := h1
  have lt1 : ∀ x ∈ p1, x.block < W.heap.size := by obtain ⟨m, hm⟩ := k1; exact DataW.trod_lt m _ _ _ hm
  obtain ⟨m1, g1⟩ := h1
  obtain ⟨g, hC1, ok1⟩ := opens_Form H enc W m1 _ _ g1
  obtain ⟨a2, len2, cap2, rfl⟩ := okWide_slice Try.underlying23 (hval 2 23 v2 rfl rfl)
  have k2 := h2
  have lt2 : ∀ x ∈ p2, x.block < W.heap.size := by obtain ⟨m, hm⟩ := k2; exact DataW.trod_lt m _ _ _ hm
  obtain ⟨m2, g2⟩ := h2
  obtain ⟨h, hC2, ok2⟩ := opens_Form H enc W m2 _ _ g2
  have hb : Rows.uptoBulkAll (H := H) [d0, d1, d2] ≤ 1048576 := by
    have h2 := of_decide_eq_true hk
    simpa only [List.append_nil] using h2
  simp only [Rows.uptoBulkAll] at hb
  obtain ⟨A0, c0, e0, hc0, hm0, hr0⟩ := hC0
  obtain ⟨A1, c1, e1, hc1, hm1, hr1⟩ := hC1
  obtain ⟨A2, c2, e2, hc2, hm2, hr2⟩ := hC2
  simp [Value.cells] at e0 e1 e2
  obtain ⟨rfl, rfl, rfl⟩ := e0
  obtain ⟨rfl, rfl, rfl⟩ := e1
  obtain ⟨rfl, rfl, rfl⟩ := e2
  have w0 : (f.map wtm).sum + 1 ≤ Rows.uptoBulk d0 := wt_form ok0
  have w1 : (g.map wtm).sum + 1 ≤ Rows.uptoBulk d1 := wt_form ok1
  have w2 : (h.map wtm).sum + 1 ≤ Rows.uptoBulk d2 := wt_form ok2
  have hlaw := law_Orders a0 cap0 f a1 cap1 g a2 cap2 h W hr0 hc0 hr1 hc1 hr2 hc2 (fun m hm => (ok_mem ok0 hm).elim fun d h => by obtain ⟨_, _, _, _, h⟩ := h; exact good_rat h) (fun m hm => (ok_mem ok1 hm).elim fun d h => by obtain ⟨_, _, _, _, h⟩ := h; exact good_rat h) (fun m hm => (ok_mem ok2 hm).elim fun d h => by obtain ⟨_, _, _, _, h⟩ := h; exact good_rat h) (by omega)
  refine hlaw.mono fun e W' ⟨he, bel⟩ => ?_
  subst he
  exact ⟨_, rfl, _, _, _, [], _, [], hW', trodAll_mk1 (shut_bool Try.underlying4 _), (trodAll_cons_mk (Below.trod prog_laid (by kernel_rfl) (of_decide_eq_true (by kernel_rfl)) k0 bel lt0) (trodAll_cons_mk (Below.trod prog_laid (by kernel_rfl) (of_decide_eq_true (by kernel_rfl)) k1 bel lt1) (trodAll_cons_mk (Below.trod prog_laid (by kernel_rfl) (of_decide_eq_true (by kernel_rfl)) k2 bel lt2) trodAll_mk0))), rfl, bel.frame _, fun h => by cases h⟩

set_option maxRecDepth 100000 in
theorem lifted (os : Os) (started : os.Started) (H : Type) (enc : TypeId × Value → H) (F : Stop.Interp) :
    ReturnsInHanded {} Try.checked os 8 .any ((Rows.OpenSpec.upto Rows.linearOrdersSpec).pre6 enc Try.prog Try.f8 Rows.linearOrdersUptoRow.domain false) (((Rows.OpenSpec.upto Rows.linearOrdersSpec).at F).post enc Try.prog Try.f8 false true false false) := by
  refine returnsInHanded_of_cond (C := Try.checked) (s := Rows.OpenSpec.upto Rows.linearOrdersSpec) (k := Rows.uptoSmall) rfl prog_own started (by kernel_rfl) Try.func8
    (OpenSpec.witness (enc := enc) (C := Try.checked) (s := Rows.OpenSpec.upto Rows.linearOrdersSpec) (k := Rows.uptoSmall) rfl false ⟨#[], #[.slice none 0 0, .slice none 0 0, .slice none 0 0], []⟩ 8 (by kernel_rfl) (by kernel_rfl) (by kernel_rfl)
      (x := ([.nil, .nil, .nil], [], [])) (by kernel_rfl) rfl (by kernel_rfl)) ?_
  intro W base args ds gs before hval hW _ hk _
  exact contract H enc W base args ds gs before hval hW hk

theorem over : Rows.LinearOrdersUptoSaid :=
  OpenClaim.holds_of_cond 8 Try.f8 rfl rfl rfl rfl rfl rfl rfl ⟨rfl, rfl, rfl, rfl, rfl⟩ rfl rfl rfl rfl rfl (by kernel_rfl) Try.func8 (by kernel_rfl)
    (of_decide_eq_true (by kernel_rfl)) (by unfold Func.isWrapper; first | (rw [if_pos (by decide +kernel)]; kernel_rfl) | (rw [if_neg (by decide +kernel)]; exact ⟨rfl, rfl⟩))
    (fun os started H enc _ F => lifted os started H enc F)
end Go.Proofs.Ytchdoignomidjaa.orders
namespace Go.Proofs.Ytchdoignomidjaa
theorem linearOrders_holds : Rows.LinearOrdersUptoSaid := orders.over
#print axioms linearOrders_holds
end Go.Proofs.Ytchdoignomidjaa

import Derived.Test.YtchdoignomidjaaAfd
/- The walk of linear.Combine. -/
set_option linter.unusedVariables false
set_option linter.unusedSimpArgs false
namespace Go.Proofs.Ytchdoignomidjaa.F
open Go.RowKit Go.Shelf Go.Proofs.YtchdoignomidjaaW.PrintLast

set_option maxHeartbeats 4000000 in
set_option maxRecDepth 100000 in
theorem linear_Combine (A : Option Addr) (c : Nat) (xs : List WgtD) (w : World) (h : kWgt.Row w A xs) (hc : xs.length ≤ c) (hx : ∀ x ∈ xs, GoodW x) (hb : (xs.map wtW).sum ≤ 1048576) :
    Calls Try.prog 36 #[.slice A xs.length c] w (ToldA w (nform (cat xs)) (cst xs)) := by
  have hln : xs.length * 7 ≤ (xs.map wtW).sum := len_le_sum xs fun x _ => by unfold wtW wtA wt; omega
  have hl : xs.length ≤ 1099511627776 := by omega
  have H1 := Lib.hid h
  have HX := Lib.hid hx
  have HS := Lib.hid (fun i => cat_small (xs.take i) (fun x hm => hx x (List.mem_of_mem_take hm)) (Nat.le_trans (wtW_take xs i) hb))
  have HM := Lib.hid (show ∀ x ∈ xs, wtW x ≤ 1048576 from fun x hm => Nat.le_trans (le_sum hm) hb)
  obtain ⟨q0, hq0⟩ : ∃ q, q = (0 : Rat) := ⟨_, rfl⟩
  have hW := Lib.hid (fun (W : World) => ratio_Whole 0 W (by omega) (by omega))
  rw [show (((0 : Int)) : Rat) = 0 from rfl, ← hq0] at hW
  have HF := Lib.hid ((Fr.refl w).box [.slice none 0 0, .bool false, .slice none 0 0, .slice none 0 0] 60)
  have HZ := Lib.hid (show q0 = cst (xs.take 0) from hq0)
  clear h hx hb hln hq0
  go_enter Try.func36, Try.ntmps36
  go_wp2_with fail
  refine (hW.out _).mono ?_
  rintro e W1 ⟨A0, c0, B0, d0, rfl, g1, g2, g3⟩
  have Q0 := Lib.hid (InQ.mk g1 g2)
  replace HF := Lib.hid (HF.out.below g3)
  clear g1 g2 g3 hW
  have hgw : w.heap.size < W1.heap.size := HF.out.ltN 0 rfl
  replace Q0 := Lib.hid (Q0.out.below ((Below.refl _ W1).alloc (Nat.le_refl _) (.cells #[.slice none 0 0, .bool (decide (q0.num < 0)), .slice A0 (dg q0.num.natAbs).length c0, .slice B0 (dg q0.den).length d0] 60)))
  replace HF := Lib.hid (HF.out.box [.slice none 0 0, .bool (decide (q0.num < 0)), .slice A0 (dg q0.num.natAbs).length c0, .slice B0 (dg q0.den).length d0] 60)
  go_wp2
  go_loopg [10] xs.length (fun gg s10 wr => ∃ (i : Nat) (l : Frm) (q : Rat) (E : Option Addr) (j : Nat) (A1 : Option Addr) (c1 : Nat) (B1 : Option Addr) (d1 : Nat), i + gg = xs.length ∧ s10 = .int .i64 i ∧ Hid (Fr w wr [(W1.heap.size, [.slice E l.length j, .bool (decide (q.num < 0)), .slice A1 (dg q.num.natAbs).length c1, .slice B1 (dg q.den).length d1]), (w.heap.size, [.slice none 0 0, .bool false, .slice none 0 0, .slice none 0 0])]) ∧ Hid (OwnF wr (W1.heap.size + 1) (.slice E l.length j) l) ∧ Hid (InQ wr A1 c1 B1 d1 q) ∧ Hid (l = nform (cat (xs.take i))) ∧ Hid (q = cst (xs.take i)))
  case atStart => exact ⟨0, [], q0, none, 0, A0, c0, B0, d0, by omega, rfl, HF, OwnF.nil _ _, Q0, rfl, HZ⟩
  case round =>
    clear HF Q0 HZ
    obtain ⟨i, l, q, E, j, A1, c1, B1, d1, hg, rfl, HF, HO, HQ, HE1, HE2⟩ := hrel
    by_cases hlt : i < xs.length
    · have hltz : (i : Int) < (xs.length : Int) := by omega
      obtain ⟨ad, A2, c2, B2, d2, D2, e2, B3, d3, D3, e3, rfl, h1, h2, h3, h4, h5, h6, h7, hlc, hrow, hq1, hq2⟩ := row_wgt H1.out i hlt
      have gm := HX.out xs[i] (List.getElem_mem hlt)
      have wm := HM.out xs[i] (List.getElem_mem hlt)
      have s1 := HS.out i
      have s2 := HS.out (i + 1)
      have eq1 := cat_succ xs i hlt
      have eq2 := cst_succ xs i hlt
      have HN1 := Lib.hid (show nform (l ++ smul (rq xs[i].2) (fval xs[i].1.1)) = nform (cat (xs.take (i + 1))) by rw [eq1, HE1.out, nform_apl])
      have HN2 := Lib.hid (show q + rq xs[i].2 * rq xs[i].1.2 = cst (xs.take (i + 1)) by rw [eq2, HE2.out])
      have hml : mf l ≤ mf (cat (xs.take i)) := by rw [HE1.out]; exact mf_nform _
      have hll : l.length ≤ (cat (xs.take i)).length := by rw [HE1.out]; exact nform_len _
      have hmq : mu q ≤ 1048577 := by rw [HE2.out]; exact s1.2.2
      have hma : mf (cat (xs.take (i + 1))) = mf (cat (xs.take i)) + mf (smul (rq xs[i].2) (fval xs[i].1.1)) := by rw [eq1, mf_append]
      clear eq1 eq2 HE1 HE2
      generalize xs[i] = m at *
      obtain ⟨⟨g, ⟨⟨sb, us⟩, es⟩⟩, ⟨sc, vs⟩, fs⟩ := m
      have a1 := cell_below HF.out.bel h1
      have a2 := cell_below HF.out.bel h2
      have a3 := cell_below HF.out.bel h3
      have a4 := cell_below HF.out.bel h4
      have a5 := cell_below HF.out.bel h5
      have a6 := cell_below HF.out.bel h6
      have a7 := cell_below HF.out.bel h7
      have n1 := gm.of.const.mn
      have n2 := gm.of.const.md
      have n3 := gm.coef.mn
      have n4 := gm.coef.md
      have hlg : g.length * 7 ≤ (g.map wtm).sum := len_le_sum g fun m _ => wtm7 m
      have hR : FRaw w A2 c2 g := FRaw.of hrow hlc gm.of.form (by unfold wtW wtA at wm; dsimp only at wm; omega)
      have hI1 := hq1.num gm.of.const
      have hI2 := hq1.den gm.of.const
      have hI3 := hq2.num gm.coef
      have hI4 := hq2.den gm.coef
      have u1 := mu_rq gm.of.const
      have u2 := mu_rq gm.coef
      unfold wtW wtA at wm
      dsimp only at *
      have u3 := mu_mul (rv sc vs fs) (rv sb us es)
      have u4 := mf_nform (smul (rv sc vs fs) (fval g))
      have u5 := wtm_can l
      have u6 := mu_len q
      change mf (cat (xs.take (i + 1))) = _ + mf (smul (rv sc vs fs) (fval g)) at hma
      change mu (rv sb us es) ≤ _ at u1
      change mu (rv sc vs fs) ≤ _ at u2
      have hP := Lib.hid (show ∀ (W : World) (hb : Below w.heap.size w W), FIn W E j l → InQ W A1 c1 B1 d1 q → Calls Try.prog 79 #[.agg #[.slice E l.length j, .bool (decide (q.num < 0)), .slice A1 (dg q.num.natAbs).length c1, .slice B1 (dg q.den).length d1], .agg #[.bool sc, .slice B3 vs.length d3, .slice D3 fs.length e3], .agg #[.slice A2 g.length c2, .bool sb, .slice B2 us.length d2, .slice D2 es.length e2]] W (ToldA W (nform (cat (xs.take (i + 1)))) (cst (xs.take (i + 1)))) from fun W hb k1 k2 => by
        have e := linear_plus E j _ (decide (q.num < 0)) A1 c1 _ B1 d1 _ sc B3 d3 vs D3 e3 fs A2 c2 g sb B2 d2 us D2 e2 es W (k1.raw (by omega)) (hR.below hb) k2.num (by omega) k2.den (by omega) (hI3.below hb) (by omega) (hI4.below hb) (by omega) (hI1.below hb) (by omega) (hI2.below hb) (by omega) (by omega) (mu_ql (by omega))
        rw [List.length_map, fval_can, rv_can] at e
        rw [show nform (l ++ smul (rv sc vs fs) (fval g)) = _ from HN1.out, show q + rv sc vs fs * rv sb us es = _ from HN2.out] at e
        exact e)
      obtain ⟨l2, hl2⟩ : ∃ l2, l2 = nform (cat (xs.take (i + 1))) := ⟨_, rfl⟩
      obtain ⟨q2, hq2'⟩ : ∃ q2, q2 = cst (xs.take (i + 1)) := ⟨_, rfl⟩
      rw [← hl2, ← hq2'] at hP
      have HL2 := Lib.hid hl2
      have HQ2 := Lib.hid hq2'
      clear h1 h2 h3 h4 h5 h6 h7 hlc hrow hq1 hq2 gm wm s1 s2 HN1 HN2 hml hll hmq hma n1 n2 n3 n4 hlg hR hI1 hI2 hI3 hI4 u1 u2 u3 u4 u5 u6 hl2 hq2'
      have hgr : W1.heap.size < wr.heap.size := HF.out.ltN 0 rfl
      have hal := Lib.hid ((Below.refl _ wr).alloc (Nat.le_refl _) (.cells #[.slice A2 g.length c2, .bool sb, .slice B2 us.length d2, .slice D2 es.length e2, .bool sc, .slice B3 vs.length d3, .slice D3 fs.length e3] 98))
      replace HF := Lib.hid (HF.out.box [.slice A2 g.length c2, .bool sb, .slice B2 us.length d2, .slice D2 es.length e2, .bool sc, .slice B3 vs.length d3, .slice D3 fs.length e3] 98)
      replace HO := Lib.hid (HO.out.below hal.out)
      replace HQ := Lib.hid (HQ.out.below hal.out)
      have b0 := HF.out.cellN 1 rfl 0 rfl
      have b1 := HF.out.cellN 1 rfl 1 rfl
      have b2 := HF.out.cellN 1 rfl 2 rfl
      have b3 := HF.out.cellN 1 rfl 3 rfl
      clear hal
      go_wp2_with fail
      refine (hP.out _ HF.out.bel HO.out.fin' HQ.out).mono ?_
      rintro e W2 ⟨E5, e5, A5, c5, B5, d5, rfl, g1, g2, g3⟩
      have hg3 := HF.out.ltN 0 rfl
      replace HF := Lib.hid (HF.out.below g3)
      have HO5 := Lib.hid (g1.mono (by omega : W1.heap.size + 1 ≤ _))
      have Q5 := Lib.hid g2
      clear g1 g2 g3 HO HQ hP b0 b1 b2 b3 hg3
      have hf0 := HF.out.frozenN 1 rfl 0
      have hf1 := HF.out.frozenN 1 rfl 1
      have hf2 := HF.out.frozenN 1 rfl 2
      have hf3 := HF.out.frozenN 1 rfl 3
      have hd0 := HF.out.cellN 1 rfl 0 rfl
      have hd1 := HF.out.cellN 1 rfl 1 rfl
      have hd2 := HF.out.cellN 1 rfl 2 rfl
      have hd3 := HF.out.cellN 1 rfl 3 rfl
      have HKU := Lib.hid (KeepU.put4 (HF.out.ownN 1 rfl) (fun y hy => by simp at hy) (y1 := .slice E5 l2.length e5) (y2 := .bool (decide (q2.num < 0))) (y3 := .slice A5 (dg q2.num.natAbs).length c5) (fun y hy => by simp at hy) (.slice B5 (dg q2.den).length d5))
      replace Q5 := Lib.hid (Q5.out.keep HKU.out)
      replace HO5 := Lib.hid (HO5.out.put4 (fun h => by have := (HO5.out.block _ h).1; omega) _ _ _ _ HKU.out)
      replace HF := Lib.hid (HF.out.put4 1 rfl (by omega) (by simp; omega) (.slice E5 l2.length e5) (.bool (decide (q2.num < 0))) (.slice A5 (dg q2.num.natAbs).length c5) (.slice B5 (dg q2.den).length d5))
      clear HKU
      go_wp2
      go_roundg (xs.length - (i + 1))
      case measure => omega
      case rel => exact ⟨i + 1, l2, q2, E5, e5, A5, c5, B5, d5, by omega, by go_num, HF.out.tail, HO5, Q5, HL2, HQ2⟩
    · have hltz : ¬ (i : Int) < (xs.length : Int) := by omega
      have e1 : l = nform (cat xs) := by rw [HE1.out, List.take_of_length_le (by omega)]
      have e2 : q = cst xs := by rw [HE2.out, List.take_of_length_le (by omega)]
      have HE3 := Lib.hid e1
      have HE4 := Lib.hid e2
      clear HE1 HE2 e1 e2
      have hf0 := HF.out.frozenN 1 rfl 0
      have hf1 := HF.out.frozenN 1 rfl 1
      have hf2 := HF.out.frozenN 1 rfl 2
      have hf3 := HF.out.frozenN 1 rfl 3
      have hd0 := HF.out.cellN 1 rfl 0 rfl
      have hd1 := HF.out.cellN 1 rfl 1 rfl
      have hd2 := HF.out.cellN 1 rfl 2 rfl
      have hd3 := HF.out.cellN 1 rfl 3 rfl
      have a0 := HF.out.cellN 0 rfl 0 rfl
      have a1 := HF.out.cellN 0 rfl 1 rfl
      have a2 := HF.out.cellN 0 rfl 2 rfl
      have a3 := HF.out.cellN 0 rfl 3 rfl
      have HKU := Lib.hid (KeepU.put4 (HF.out.ownN 1 rfl) (fun y hy => by simp at hy) (y1 := .slice E l.length j) (y2 := .bool (decide (q.num < 0))) (y3 := .slice A1 (dg q.num.natAbs).length c1) (fun y hy => by simp at hy) (.slice B1 (dg q.den).length d1))
      replace HQ := Lib.hid (HQ.out.keep HKU.out)
      replace HO := Lib.hid (HO.out.put4 (fun h => by have := (HO.out.block _ h).1; omega) _ _ _ _ HKU.out)
      replace HF := Lib.hid (HF.out.put4 1 rfl (by omega) (by simp; omega) (.slice E l.length j) (.bool (decide (q.num < 0))) (.slice A1 (dg q.num.natAbs).length c1) (.slice B1 (dg q.den).length d1))
      clear HKU
      go_wp2
      refine post_own (HF.out.ownN 1 rfl) rfl rfl rfl Try.underlying60 rfl (by kernel_rfl) ?_
      rw [← HE3.out, ← HE4.out]
      exact ⟨_, _, _, _, _, _, rfl, HO.out.mono (by omega), HQ.out, HF.out.bel⟩
end Go.Proofs.Ytchdoignomidjaa.F

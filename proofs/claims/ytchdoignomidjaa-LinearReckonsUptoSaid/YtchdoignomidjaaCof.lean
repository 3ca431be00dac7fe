import Derived.Test.YtchdoignomidjaaCmp
/- The walk of linear.Coef. -/
set_option linter.unusedVariables false
set_option linter.unusedSimpArgs false
namespace Go.Proofs.Ytchdoignomidjaa.F
open Go.RowKit Go.Shelf Go.Proofs.YtchdoignomidjaaW.PrintLast

set_option maxHeartbeats 1000000 in
set_option maxRecDepth 100000 in
theorem linear_Coef (A : Option Addr) (c : Nat) (f : List (Int × RatD)) (u : Int) (w : World) (h : FRaw w A c f) :
    Calls Try.prog 41 #[.slice A f.length c, .int .i64 u] w fun e w' => ToldQ w (co (fval f) u) e w' := by
  have hl := h.len
  have hc := h.cap
  have H1 := Lib.hid h.row
  have HF1 := Lib.hid (fun m (hm : m ∈ f) => (h.good m hm).mono (show wt m.2 ≤ 137438953471 by have h1 : wtm m ≤ (f.map wtm).sum := le_sum hm; have h2 := wt_le m; have := h.sum; omega))
  have HS1 := Lib.hid (show ∀ i, i ≤ f.length → QL (co (fval (f.take i)) u) from fun i hi => ql_of_mf (by
    have h1 := mf_fval (f := f.take i) fun m hm => h.good m (List.mem_of_mem_take hm)
    have h2 : (f.map wtm).sum = ((f.take i).map wtm).sum + ((f.drop i).map wtm).sum := by rw [← sum_append, List.take_append_drop]
    have := h.sum
    omega) u)
  obtain ⟨M, hM⟩ : ∃ M, M = 137438953472 := ⟨_, rfl⟩
  have HF := Lib.hid (((Fr.refl w).box [.bool false, .slice none 0 0, .slice none 0 0] 31).box [.bool false, .slice none 0 0, .slice none 0 0] 31)
  have hsz : (w.alloc (.cells #[.bool false, .slice none 0 0, .slice none 0 0] 31)).heap.size = w.heap.size + 1 := by simp
  rw [show [Value.bool false, Value.slice none 0 0, Value.slice none 0 0].toArray = #[Value.bool false, Value.slice none 0 0, Value.slice none 0 0] from rfl, hsz] at HF
  clear hsz h
  go_enter Try.func41, Try.ntmps41
  go_wp2
  go_loopg [11] f.length (fun gg s11 wr => ∃ (i : Nat) (s : Bool) (A1 : Option Addr) (c1 : Nat) (xs : List Int) (B1 : Option Addr) (d1 : Nat) (ys : List Int), i + gg = f.length ∧ s11 = .int .i64 i ∧ Hid (Fr w wr [(w.heap.size + 1, [.bool s, .slice A1 xs.length c1, .slice B1 ys.length d1]), (w.heap.size, [.bool false, .slice none 0 0, .slice none 0 0])]) ∧ Hid (In wr A1 c1 xs) ∧ Hid (In wr B1 d1 ys) ∧ xs.length ≤ M ∧ ys.length ≤ M ∧ Hid (rv s xs ys = co (fval (f.take i)) u))
  case atStart => exact ⟨0, false, none, 0, [], none, 0, [], by omega, rfl, HF, In.nil _ _ _, In.nil _ _ _, Nat.zero_le _, Nat.zero_le _, by show _ = _; rfl⟩
  case round =>
    clear HF
    obtain ⟨i, s, A1, c1, xs, B1, d1, ys, hg, rfl, HF, HX, HY, lx, ly, HE⟩ := hrel
    by_cases hlt : i < f.length
    · have hltz : (i : Int) < (f.length : Int) := by omega
      obtain ⟨ad, BB, cc, DD, dd, rfl, h1, h2, h3, h4, hq⟩ := row_mono H1.out i hlt
      have gm := HF1.out f[i] (List.getElem_mem hlt)
      have HE2 := Lib.hid (show co (fval (f.take (i + 1))) u = co (fval (f.take i)) u + (if f[i].1 = u then rq f[i].2 else 0) from by
        rw [List.take_succ_eq_append_getElem hlt]
        unfold fval
        rw [List.map_append, co_append]
        simp only [List.map_cons, List.map_nil, co, valM]
        grind)
      have sq := HS1.out (i + 1) (by omega)
      generalize f[i] = m at *
      obtain ⟨v, ⟨sb, us⟩, es⟩ := m
      have gn := gm.mn
      have gd := gm.md
      have q1 := cell_below HF.out.bel h1
      have q2 := cell_below HF.out.bel h2
      have q3 := cell_below HF.out.bel h3
      have q4 := cell_below HF.out.bel h4
      have HQ1 := Lib.hid (hq.num gm)
      have HQ2 := Lib.hid (hq.den gm)
      clear h1 h2 h3 h4 hq gm
      dsimp only at *
      have hgw : w.heap.size + 1 < wr.heap.size := HF.out.ltN 0 rfl
      replace HF := Lib.hid (HF.out.box [.int .i64 v, .bool sb, .slice BB us.length cc, .slice DD es.length dd] 75)
      rw [show [Value.int .i64 v, .bool sb, .slice BB us.length cc, .slice DD es.length dd].toArray = #[Value.int .i64 v, .bool sb, .slice BB us.length cc, .slice DD es.length dd] from rfl] at HF
      have hal := Lib.hid ((Below.refl _ wr).alloc (Nat.le_refl _) (.cells #[.int .i64 v, .bool sb, .slice BB us.length cc, .slice DD es.length dd] 75))
      replace HX := Lib.hid (HX.out.below hal.out)
      replace HY := Lib.hid (HY.out.below hal.out)
      by_cases hv : v = u
      · subst hv
        have HSm : rv s xs ys + rv sb us es = co (fval (f.take (i + 1))) v := by rw [HE2.out, if_pos rfl, ← HE.out]; rfl
        have hAdd := Lib.hid (fun (W : World) (hb : Below w.heap.size w W) (k1 : In W A1 c1 xs) (k2 : In W B1 d1 ys) => ratio_Add s A1 c1 xs B1 d1 ys sb BB cc us DD dd es W k1 (by omega) k2 (by omega) (HQ1.out.below hb) (by omega) (HQ2.out.below hb) (by omega))
        rw [HSm] at hAdd
        obtain ⟨q, hq0⟩ : ∃ q, q = co (fval (f.take (i + 1))) v := ⟨_, rfl⟩
        rw [← hq0] at hAdd sq
        have HQV := Lib.hid hq0
        have sq1 := sq.1
        have sq2 := sq.2
        clear hq0 HSm HE HE2 HQ1 HQ2 sq
        have hc0 := HF.out.cellN 1 rfl 0 rfl
        have hc1 := HF.out.cellN 1 rfl 1 rfl
        have hc2 := HF.out.cellN 1 rfl 2 rfl
        go_wp2_with fail
        refine (hAdd.out _ HF.out.bel HX.out HY.out).mono ?_
        rintro e W1 ⟨A3, c3, B3, d3, rfl, g1, g2, g3⟩
        replace HF := Lib.hid (HF.out.below g3)
        have Q1 := Lib.hid (InQ.mk g1 g2)
        clear g1 g2 g3 HX HY hAdd hc0 hc1 hc2
        have hf0 := HF.out.frozenN 1 rfl 0
        have hf1 := HF.out.frozenN 1 rfl 1
        have hf2 := HF.out.frozenN 1 rfl 2
        have hd0 := HF.out.cellN 1 rfl 0 rfl
        have hd1 := HF.out.cellN 1 rfl 1 rfl
        have hd2 := HF.out.cellN 1 rfl 2 rfl
        replace Q1 := Lib.hid (Q1.out.put3 (HF.out.ownN 1 rfl) (by simp) (a := .bool (decide (q.num < 0))) (by simp) (b := .slice A3 (dg q.num.natAbs).length c3) (by simp) (.slice B3 (dg q.den).length d3))
        replace HF := Lib.hid (HF.out.put3 1 rfl (by omega) (by simp; omega) (.bool (decide (q.num < 0))) (.slice A3 (dg q.num.natAbs).length c3) (.slice B3 (dg q.den).length d3))
        go_wp2
        go_roundg (f.length - (i + 1))
        case measure => omega
        case rel => exact ⟨i + 1, decide (q.num < 0), A3, c3, dg q.num.natAbs, B3, d3, dg q.den, by omega, by go_num, HF.out.tail, Q1.out.num, Q1.out.den, by omega, by omega, (rv_can q).trans HQV.out⟩
      · have HE3 : Hid (rv s xs ys = co (fval (f.take (i + 1))) u) := by
          show _ = _
          rw [HE2.out, if_neg hv, HE.out]; exact (Rat.add_zero _).symm
        have hvb : (v == u) = false := by rw [beq_eq_false_iff_ne]; exact hv
        clear HE HE2 hv hal
        go_wp2
        go_roundg (f.length - (i + 1))
        case measure => omega
        case rel => exact ⟨i + 1, s, A1, c1, xs, B1, d1, ys, by omega, by go_num, HF.out.tail, HX, HY, lx, ly, HE3⟩
    · have hltz : ¬ (i : Int) < (f.length : Int) := by omega
      have HE3 : Hid (rv s xs ys = co (fval f) u) := by
        show _ = _
        rw [HE.out, List.take_of_length_le (by omega)]
      clear HE
      have hN := Lib.hid (fun (W : World) (hb : Below wr.heap.size wr W) => ratio_Norm s A1 c1 xs B1 d1 ys W (HX.out.below hb) (by omega) (HY.out.below hb) (by omega))
      rw [HE3.out] at hN
      obtain ⟨q, hq0⟩ : ∃ q, q = co (fval f) u := ⟨_, rfl⟩
      rw [← hq0] at hN
      have HQV := Lib.hid hq0
      clear hq0
      have hc0 := HF.out.cellN 0 rfl 0 rfl
      have hc1 := HF.out.cellN 0 rfl 1 rfl
      have hc2 := HF.out.cellN 0 rfl 2 rfl
      go_wp2_with fail
      refine (hN.out _ (Below.refl _ _)).mono ?_
      rintro e W1 ⟨A2, c2, B2, d2, rfl, q1, q2, q3⟩
      replace HF := Lib.hid (HF.out.below q3)
      have Q1 := Lib.hid q1
      have Q2 := Lib.hid q2
      clear q1 q2 q3 hc0 hc1 hc2 hN HX HY
      have hf0 := HF.out.frozenN 1 rfl 0
      have hf1 := HF.out.frozenN 1 rfl 1
      have hf2 := HF.out.frozenN 1 rfl 2
      have hd0 := HF.out.cellN 1 rfl 0 rfl
      have hd1 := HF.out.cellN 1 rfl 1 rfl
      have hd2 := HF.out.cellN 1 rfl 2 rfl
      have HE := Lib.hid (end_rat HF.out.tail (by simp) (by simp) (by omega) Q1.out Q2.out rfl)
      generalize decide (q.num < 0) = b at HE ⊢
      go_wp2
      obtain ⟨f1, f2⟩ := HE.out
      refine post_own f2 rfl rfl rfl Try.underlying31 rfl (by kernel_rfl) ?_
      rw [← HQV.out]
      exact f1
end Go.Proofs.Ytchdoignomidjaa.F

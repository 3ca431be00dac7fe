/- The walks of the reference's layer 2: made, Norm, Neg, Of, Mul, Add, Sign. -/
import Derived.Test.YtidgpkccjcddgaaGreatDoorGg
set_option linter.unusedVariables false
set_option linter.unusedSimpArgs false
namespace Go.Proofs.YtidgpkccjcddgaaGreatDoor.F
open Go.RowKit Go.Shelf Go.Proofs.YtidgpkccjcddgaaGreatDoorW.PrintLast
set_option maxHeartbeats 1000000 in
set_option maxRecDepth 100000 in
theorem r2_made (s : Bool) (A : Option Addr) (c : Nat) (xs : List Int) (w : World) (h : In w A c xs) (hm : xs.length ≤ 2199023255552) (n : Int) (hn : n = iv s (V xs)) :
 Calls Tryz.prog 135 #[.bool s, .slice A xs.length c] w fun e w' => ToldI w n e w' := by
 have HF := Lib.hid ((Fr.refl w).box [.bool false, .slice none 0 0] 41)
 have hN := Lib.hid (r1_NormN A c xs _ (h.below HF.out.bel) hm)
 have hv := V_nonneg h.lim
 have habs : (V xs).toNat = n.natAbs := by rw [hn, iv_natAbs h.lim]
 have hb : decide (n < 0) = (s && decide (0 < (dg n.natAbs).length)) := by
  have h0 : 0 < (dg n.natAbs).length ↔ V xs ≠ 0 := by
   have h1 : (dg n.natAbs).length = 0 ↔ V xs = 0 := by rw [List.length_eq_zero_iff, dg_eq_nil]; omega
   omega
  rw [hn] at *
  cases s with
  | true =>
   simp only [iv, if_true, Bool.true_and] at *
   exact decide_eq_decide.2 (by omega)
  | false =>
   simp only [iv, Bool.false_eq_true, if_false, Bool.false_and] at *
   exact decide_eq_false (by omega)
 rw [habs] at hN
 clear h hn hv habs
 have HBB := Lib.hid hb
 clear hb
 go_enter Tryz.func135, Tryz.ntmps135
 go_wp2_with fail
 refine hN.out.mono ?_
 rintro e W1 ⟨A1, c1, rfl, q1, q2⟩
 replace HF := Lib.hid (HF.out.below q2)
 have Q1 := Lib.hid q1
 clear q1 q2 hN
 have hf0 := HF.out.frozenN 0 rfl 0
 have hf1 := HF.out.frozenN 0 rfl 1
 have hd0 := HF.out.cellN 0 rfl 0 rfl
 have hd1 := HF.out.cellN 0 rfl 1 rfl
 have HE := Lib.hid (end_int HF.out (by simp) (by simp) (by omega) Q1.out.cap Q1.out.row rfl)
 rw [HBB.out] at HE
 clear HBB
 cases s with
 | false =>
  rw [Bool.false_and] at HE
  go_wp2
  obtain ⟨f1, f2⟩ := HE.out
  exact post_own f2 rfl rfl rfl Tryz.underlying41 rfl (by kernel_rfl) f1
 | true =>
  rw [Bool.true_and] at HE
  by_cases hu : 0 < (dg n.natAbs).length
  · rw [decide_eq_true hu] at HE
    go_wp2
    obtain ⟨f1, f2⟩ := HE.out
    exact post_own f2 rfl rfl rfl Tryz.underlying41 rfl (by kernel_rfl) f1
  · rw [decide_eq_false hu] at HE
    go_wp2
    obtain ⟨f1, f2⟩ := HE.out
    exact post_own f2 rfl rfl rfl Tryz.underlying41 rfl (by kernel_rfl) f1
set_option maxHeartbeats 1000000 in
set_option maxRecDepth 100000 in
theorem r2_Norm (s : Bool) (A : Option Addr) (c : Nat) (xs : List Int) (w : World) (h : In w A c xs) (hm : xs.length ≤ 2199023255552) :
 Calls Tryz.prog 153 #[.agg #[.bool s, .slice A xs.length c]] w fun e w' => ToldI w (iv s (V xs)) e w' := by
 have hM := Lib.hid (fun (W : World) (hb : Below w.heap.size w W) => r2_made s A c xs W (h.below hb) hm _ rfl)
 clear h
 generalize iv s (V xs) = n at *
 have HF := Lib.hid (((Fr.refl w).box [.bool s, .slice A xs.length c] 41).box [.bool false, .slice none 0 0] 41)
 have hsz : (w.alloc (.cells #[.bool s, .slice A xs.length c] 41)).heap.size = w.heap.size + 1 := by simp
 rw [show [Value.bool s, Value.slice A xs.length c].toArray = #[Value.bool s, Value.slice A xs.length c] from rfl, hsz] at HF
 clear hsz
 go_enter Tryz.func153, Tryz.ntmps153
 go_wp2_with fail
 refine (hM.out _ HF.out.bel).mono ?_
 rintro e W1 ⟨A1, c1, rfl, q1, q2, q3⟩
 replace HF := Lib.hid (HF.out.below q3)
 have Q2 := Lib.hid q2
 clear q2 q3 hM
 have hf0 := HF.out.frozenN 0 rfl 0
 have hf1 := HF.out.frozenN 0 rfl 1
 have hd0 := HF.out.cellN 0 rfl 0 rfl
 have hd1 := HF.out.cellN 0 rfl 1 rfl
 have HE := Lib.hid (end_int HF.out (by simp) (by simp) (by omega) q1 Q2.out rfl)
 generalize decide (n < 0) = b at HE ⊢
 go_wp2
 obtain ⟨f1, f2⟩ := HE.out
 exact post_own f2 rfl rfl rfl Tryz.underlying41 rfl (by kernel_rfl) f1
theorem norm_q {n : Int} {y g : Nat} (hn : n ≠ 0) (hy : 0 < y) (hg : g = Nat.gcd n.natAbs y) : (mkRat n y).num.natAbs = n.natAbs / g ∧ (mkRat n y).den = y / g ∧ decide ((mkRat n y).num < 0) = decide (n < 0) := by
 have h1 := made_q (s := decide (n < 0)) (x := n.natAbs) hy hg
 have h2 : iv (decide (n < 0)) (n.natAbs : Int) = n := by
  unfold iv; split
  · rename_i h; have := of_decide_eq_true h; omega
  · rename_i h; have : ¬ n < 0 := by simpa using h
    omega
 rw [h2] at h1
 have hgp : 0 < g := hg ▸ Nat.gcd_pos_of_pos_right _ hy
 have hgd : g ∣ n.natAbs := hg ▸ Nat.gcd_dvd_left _ _
 have hq : 0 < n.natAbs / g := Nat.div_pos (Nat.le_of_dvd (by omega) hgd) hgp
 rw [h1.1, h1.2]
 generalize n.natAbs / g = m at *
 refine ⟨by unfold iv; split <;> omega, rfl, decide_eq_decide.2 ?_⟩
 unfold iv
 by_cases h3 : n < 0
 · rw [decide_eq_true h3, if_pos rfl]; omega
 · rw [decide_eq_false h3, if_neg (by simp)]; omega
set_option maxHeartbeats 2000000 in
set_option maxRecDepth 100000 in
theorem r3_Norm (s : Bool) (A : Option Addr) (c : Nat) (xs : List Int) (B : Option Addr) (d : Nat) (ys : List Int) (w : World) (h : In w A c xs) (hm : xs.length ≤ 549755813888) (k : In w B d ys) (km : ys.length ≤ 549755813888) :
 Calls Tryz.prog 91 #[.agg #[.bool s, .slice A xs.length c, .slice B ys.length d]] w fun e w' => ToldQ w (rv s xs ys) e w' := by
 have hN1 := Lib.hid (fun (W : World) (hb : Below w.heap.size w W) => r2_Norm s A c xs W (h.below hb) (by omega))
 have hN2 := Lib.hid (fun (W : World) (hb : Below w.heap.size w W) => r1_NormN B d ys W (k.below hb) (by omega))
 have hv := V_nonneg h.lim
 have ku := V_nonneg k.lim
 have l1 : (dg (V xs).toNat).length ≤ 549755813888 := Nat.le_trans (dg_len_of_V h.lim) hm
 have l2 : (dg (V ys).toNat).length ≤ 549755813888 := Nat.le_trans (dg_len_of_V k.lim) km
 have habs : (iv s (V xs)).natAbs = (V xs).toNat := iv_natAbs h.lim s
 rw [← habs] at l1
 obtain ⟨q, hq⟩ : ∃ q, q = rv s xs ys := ⟨_, rfl⟩
 rw [← hq]
 unfold rv at hq
 clear h k habs
 generalize iv s (V xs) = n at *
 generalize (V ys).toNat = Y at *
 have HQ := Lib.hid hq
 clear hq hv ku
 have HF := Lib.hid (((Fr.refl w).box [.bool s, .slice A xs.length c, .slice B ys.length d] 43).box [.bool false, .slice none 0 0, .slice none 0 0] 43)
 have hsz : (w.alloc (.cells #[.bool s, .slice A xs.length c, .slice B ys.length d] 43)).heap.size = w.heap.size + 1 := by simp
 rw [show [Value.bool s, Value.slice A xs.length c, Value.slice B ys.length d].toArray = #[Value.bool s, Value.slice A xs.length c, Value.slice B ys.length d] from rfl, hsz] at HF
 clear hsz
 go_enter Tryz.func91, Tryz.ntmps91
 go_wp2_with fail
 refine (hN1.out _ HF.out.bel).mono ?_
 clear hN1
 rintro e W1 ⟨A1, c1, rfl, q1, q2, q3⟩
 replace HF := Lib.hid (HF.out.below q3)
 have QN := Lib.hid (In.dg q2 q1)
 clear q1 q2 q3
 obtain ⟨b, hb⟩ : ∃ b, b = decide (n < 0) := ⟨_, rfl⟩
 have HBB := Lib.hid hb
 rw [← hb]
 clear hb
 have hal := Lib.hid ((Below.refl _ W1).alloc (Nat.le_refl _) (.cells #[.bool b, .slice A1 (dg n.natAbs).length c1] 41))
 replace QN := Lib.hid (QN.out.below hal.out)
 replace HF := Lib.hid (HF.out.boxEnd [.bool b, .slice A1 (dg n.natAbs).length c1] 41)
 clear hal
 have hc2 := HF.out.cellN 1 rfl 2 rfl
 go_wp2_with fail
 refine (hN2.out _ HF.out.bel).mono ?_
 clear hN2
 rintro e W2 ⟨B1, d1, rfl, q1, q2⟩
 replace HF := Lib.hid (HF.out.below q2)
 replace QN := Lib.hid (QN.out.below q2)
 have QD := Lib.hid q1
 clear q1 q2 hc2
 have hc0 := HF.out.cellN 2 rfl 0 rfl
 have hc1 := HF.out.cellN 2 rfl 1 rfl
 by_cases hY : Y = 0
 · subst hY
   obtain rfl : q = 0 := by rw [HQ.out]; exact Rat.mkRat_zero _
   have e3 : dg 0 = [] := dg_zero
   rw [e3] at *
   clear HQ HBB QN QD e3 l2
   have HG := Lib.hid (HF.out.box [.int .u32 1] 133)
   have hf0 := HG.out.frozenN 1 rfl 0
   have hf1 := HG.out.frozenN 1 rfl 1
   have hf2 := HG.out.frozenN 1 rfl 2
   have hd0 := HG.out.cellN 1 rfl 0 rfl
   have hd1 := HG.out.cellN 1 rfl 1 rfl
   have hd2 := HG.out.cellN 1 rfl 2 rfl
   have e0 : dg (0 : Rat).num.natAbs = [] := dg_zero
   have e1 : dg (0 : Rat).den = [1] := dg_one
   have HE := Lib.hid (end_rat (q := 0) (A := none) (c := 0) (B := some ⟨W2.heap.size, 0, none⟩) (d := 1) (HF.out.alloc (.cells #[.int .u32 1] 133)) (by simp) (by simp) (by omega) (by rw [e0]; exact In.nil _ _ _) (by rw [e1]; exact In.one (HG.out.cellN 0 rfl 0 rfl) (by omega) (by omega)) rfl)
   rw [e0, e1, show decide ((0 : Rat).num < 0) = false from rfl] at HE
   clear e0 e1
   go_wp2
   obtain ⟨f1, f2⟩ := HE.out
   exact post_own f2 rfl rfl rfl Tryz.underlying43 rfl (by kernel_rfl) f1
 · have hyl : 0 < (dg Y).length := by
    rcases Nat.eq_zero_or_pos (dg Y).length with h0 | h0
    · exact absurd (dg_eq_nil.1 (List.length_eq_zero_iff.1 h0)) (by omega)
    · exact h0
   have hyz : (((dg Y).length : Int) == 0) = false := by rw [beq_eq_false_iff_ne]; omega
   by_cases hn : n = 0
   · obtain rfl : q = 0 := by rw [HQ.out, hn]; exact Rat.zero_mkRat _
     have e3 : (dg n.natAbs).length = 0 := by rw [hn]; show (dg 0).length = 0; rw [dg_zero]; rfl
     have e4 : (((dg n.natAbs).length : Int) == 0) = true := by rw [e3]; rfl
     clear HQ HBB QN QD e3 hn
     have HG := Lib.hid (HF.out.box [.int .u32 1] 133)
     have hf0 := HG.out.frozenN 1 rfl 0
     have hf1 := HG.out.frozenN 1 rfl 1
     have hf2 := HG.out.frozenN 1 rfl 2
     have hd0 := HG.out.cellN 1 rfl 0 rfl
     have hd1 := HG.out.cellN 1 rfl 1 rfl
     have hd2 := HG.out.cellN 1 rfl 2 rfl
     have e0 : dg (0 : Rat).num.natAbs = [] := dg_zero
     have e1 : dg (0 : Rat).den = [1] := dg_one
     have HE := Lib.hid (end_rat (q := 0) (A := none) (c := 0) (B := some ⟨W2.heap.size, 0, none⟩) (d := 1) (HF.out.alloc (.cells #[.int .u32 1] 133)) (by simp) (by simp) (by omega) (by rw [e0]; exact In.nil _ _ _) (by rw [e1]; exact In.one (HG.out.cellN 0 rfl 0 rfl) (by omega) (by omega)) rfl)
     rw [e0, e1, show decide ((0 : Rat).num < 0) = false from rfl] at HE
     clear e0 e1
     go_wp2
     obtain ⟨f1, f2⟩ := HE.out
     exact post_own f2 rfl rfl rfl Tryz.underlying43 rfl (by kernel_rfl) f1
   · have hnl : 0 < (dg n.natAbs).length := by
      rcases Nat.eq_zero_or_pos (dg n.natAbs).length with h0 | h0
      · exact absurd (dg_eq_nil.1 (List.length_eq_zero_iff.1 h0)) (by omega)
      · exact h0
     have hnz : (((dg n.natAbs).length : Int) == 0) = false := by rw [beq_eq_false_iff_ne]; omega
     obtain ⟨g, hg⟩ : ∃ g, g = Nat.gcd n.natAbs Y := ⟨_, rfl⟩
     have hgp : 0 < g := hg ▸ Nat.gcd_pos_of_pos_right _ (by omega)
     have hgl : (dg g).length ≤ 549755813888 := Nat.le_trans (dg_length_mono (hg ▸ Nat.gcd_le_right _ (by omega))) l2
     have hnq := norm_q hn (by omega : 0 < Y) hg
     rw [← HQ.out, ← HBB.out] at hnq
     have HNQ := Lib.hid hnq
     have hGc := Lib.hid (r1_Gcd A1 c1 (dg n.natAbs) B1 d1 (dg Y) W2 QN.out l1 QD.out l2)
     simp only [V_dg, Int.toNat_natCast] at hGc
     rw [← hg] at hGc
     have hD1 := Lib.hid (fun (W : World) (A' : Option Addr) (c' : Nat) (hb : Below W2.heap.size W2 W) (hr : In W A' c' (dg g)) => r1_Div A1 c1 (dg n.natAbs) A' c' (dg g) W (QN.out.below hb) l1 hr hgl (by rw [V_dg]; omega))
     have hD2 := Lib.hid (fun (W : World) (A' : Option Addr) (c' : Nat) (hb : Below W2.heap.size W2 W) (hr : In W A' c' (dg g)) => r1_Div B1 d1 (dg Y) A' c' (dg g) W (QD.out.below hb) l2 hr hgl (by rw [V_dg]; omega))
     simp only [V_dg, Int.toNat_natCast] at hD1 hD2
     unfold ToldD at hD1 hD2
     rw [← hnq.1] at hD1
     rw [← hnq.2.1] at hD2
     clear hnq hnl hyl HQ HBB QN QD hg hgp hgl
     go_wp2_with fail
     refine hGc.out.mono ?_
     clear hGc
     rintro e W3 ⟨A3, c3, rfl, q1, q2⟩
     replace HF := Lib.hid (HF.out.below q2)
     have QG := Lib.hid q1
     have HS := Lib.hid q2
     clear q1 q2 hc0 hc1
     have hc0 := HF.out.cellN 2 rfl 0 rfl
     have hc1 := HF.out.cellN 2 rfl 1 rfl
     go_wp2_with fail
     refine (hD1.out W3 A3 c3 HS.out QG.out).mono ?_
     clear hD1
     rintro e W4 ⟨A4, c4, A5, c5, rfl, q1, q2, q3⟩
     replace HF := Lib.hid (HF.out.below q3)
     replace QG := Lib.hid (QG.out.below q3)
     have Q1 := Lib.hid q1
     replace HS := Lib.hid (HS.out.trans (q3.mono HS.out.size))
     clear q1 q2 q3 hc0 hc1
     go_wp2_with fail
     refine (hD2.out W4 A3 c3 HS.out QG.out).mono ?_
     clear hD2
     rintro e W5 ⟨A6, c6, A7, c7, rfl, q1, q2, q3⟩
     replace HF := Lib.hid (HF.out.below q3)
     replace Q1 := Lib.hid (Q1.out.below q3)
     have Q2 := Lib.hid q1
     clear q1 q2 q3 QG HS
     have hc0 := HF.out.cellN 2 rfl 0 rfl
     have hf0 := HF.out.frozenN 0 rfl 0
     have hf1 := HF.out.frozenN 0 rfl 1
     have hf2 := HF.out.frozenN 0 rfl 2
     have hd0 := HF.out.cellN 0 rfl 0 rfl
     have hd1 := HF.out.cellN 0 rfl 1 rfl
     have hd2 := HF.out.cellN 0 rfl 2 rfl
     have HE := Lib.hid (end_rat (q := q) HF.out (by simp) (by simp) (by omega) Q1.out Q2.out rfl)
     rw [HNQ.out.2.2] at HE
     go_wp2
     obtain ⟨f1, f2⟩ := HE.out
     exact post_own f2 rfl rfl rfl Tryz.underlying43 rfl (by kernel_rfl) f1
end Go.Proofs.YtidgpkccjcddgaaGreatDoor.F

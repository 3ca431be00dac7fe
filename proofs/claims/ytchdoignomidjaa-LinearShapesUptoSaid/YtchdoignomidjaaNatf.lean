/- The walks of package nat, sixth part: long. Conditions: the limbs are limbs, the divisor has two limbs or more and none idle, what is divided is not below it. -/
import Derived.Test.YtchdoignomidjaaNate
import Derived.Test.YtchdoignomidjaaKnutb
set_option linter.unusedVariables false
set_option linter.unusedSimpArgs false
namespace Go.Proofs.Ytchdoignomidjaa.F
open Go.RowKit Go.Shelf

theorem getD_lt {xs : List Int} {i : Nat} (h : i < xs.length) : xs.getD i 0 = xs[i] := by simp [List.getD, List.getElem?_eq_getElem h]
theorem OwnN.len_lt {w : World} {g : Nat} {xs : List Int} (h : OwnN w g xs) : g < w.heap.size := Own.lt h
theorem Own.grown {w w1 : World} {g u : Nat} {cs : List Value} (h : Own w g cs) (hg : w.grownBy w1 (some u)) (hne : g ≠ u) : Own w1 g cs := by
  obtain ⟨t, h⟩ := h
  exact ⟨t, (hg.block g (Array.getElem?_eq_some_iff.1 h).1 (by intro e; injection e with e; exact hne e)).trans h⟩

theorem low_mod {y : Int} {up : Nat} (h : up ≤ 32) : y * 2 ^ (32 - up) % 4294967296 = (y % 2 ^ up) * 2 ^ (32 - up) := by
  rw [← pow_split h, Int.mul_comm y, Int.mul_comm (2 ^ up), Int.mul_emod_mul_of_pos _ _ (pow2_pos _), Int.mul_comm]
theorem down_or {x y : Int} {up : Nat} (hup : up < 32) (hx : 0 ≤ x ∧ x < 4294967296) (hy : 0 ≤ y ∧ y < 4294967296) :
    bits .or .u32 (x / 2 ^ up) (IntKind.u64.wrap (y * 2 ^ (32 - up)) % 4294967296) = x / 2 ^ up + (y % 2 ^ up) * 2 ^ (32 - up) ∧ 0 ≤ x / 2 ^ up + (y % 2 ^ up) * 2 ^ (32 - up) ∧ x / 2 ^ up + (y % 2 ^ up) * 2 ^ (32 - up) < 4294967296 := by
  have hp := pow_split (Nat.le_of_lt hup)
  have s1 := pow2_pos up
  have s2 := pow2_pos (32 - up)
  have q0 := Int.ediv_nonneg hx.1 (Int.le_of_lt s1)
  have q1 : x / 2 ^ up < 2 ^ (32 - up) := by rw [Int.ediv_lt_iff_lt_mul s1, Int.mul_comm, hp]; exact hx.2
  have w0 : 0 ≤ y * 2 ^ (32 - up) := Int.mul_nonneg hy.1 (Int.le_of_lt s2)
  have w1 : (2 : Int) ^ (32 - up) ≤ 4294967296 := by
    have : (1 : Int) * 2 ^ (32 - up) ≤ 2 ^ up * 2 ^ (32 - up) := mul_mono (by omega) (by omega)
    omega
  have w2 : y * 2 ^ (32 - up) < 18446744073709551616 := by
    have : y * 2 ^ (32 - up) ≤ 4294967295 * 2 ^ (32 - up) := mul_mono (by omega) (by omega)
    omega
  have h := or_low (z := x / 2 ^ up) (x := y) (up := 32 - up) (by omega) q0 q1 hy
  rw [u64w w0 w2]
  rw [low_mod (Nat.le_of_lt hup)] at h ⊢
  have z0 : 0 ≤ (y % 2 ^ up) * 2 ^ (32 - up) := Int.mul_nonneg (Int.emod_nonneg _ (by omega)) (by omega)
  exact ⟨h.1, by omega, h.2⟩
theorem lead {t : Int} (h0 : 0 < t) (h1 : t < 4294967296) : ∃ up : Nat, up < 32 ∧ 32 - (Lib.bitLen t.toNat : Int) = (up : Int) ∧ 2147483648 ≤ t * 2 ^ up ∧ (t + 1) * 2 ^ up ≤ 4294967296 := by
  obtain ⟨n, rfl⟩ := Int.eq_ofNat_of_zero_le (Int.le_of_lt h0)
  simp only [Int.toNat_natCast]
  obtain ⟨a, b, c, d⟩ := bitLen_bounds (x := n) (by omega) (by omega)
  generalize Lib.bitLen n = l at *
  refine ⟨32 - l, by omega, by omega, ?_, ?_⟩
  · have : 2 ^ (l - 1) * 2 ^ (32 - l) ≤ n * 2 ^ (32 - l) := Nat.mul_le_mul_right _ c
    rw [← Nat.pow_add, show l - 1 + (32 - l) = 31 by omega] at this
    have h := Int.ofNat_le.2 this
    simpa using h
  · have : (n + 1) * 2 ^ (32 - l) ≤ 2 ^ l * 2 ^ (32 - l) := Nat.mul_le_mul_right _ d
    rw [← Nat.pow_add, show l + (32 - l) = 32 by omega] at this
    have h := Int.ofNat_le.2 this
    simpa using h

set_option maxHeartbeats 4000000 in
set_option maxRecDepth 100000 in
theorem nat_long (A : Option Addr) (c : Nat) (xs : List Int) (B : Option Addr) (d : Nat) (ys : List Int) (m : Nat) (w : World) (h : Rn w A xs) (hl : Lim xs) (hc : xs.length ≤ c) (hm : xs.length ≤ 549755813888)
    (k : Rn w B ys) (kl : Lim ys) (kc : ys.length ≤ d) (hy : ys.length = m + 2) (htop : 0 < ys[m + 1]'(by omega)) (hle : m + 2 ≤ xs.length) :
    Calls Try.prog 120 #[.slice A xs.length c, .slice B (m + 2) d] w fun e w' =>
      ∃ A' c' B' d', e = .returned (.tuple #[.slice A' (dg (V xs / V ys).toNat).length c', .slice B' (dg (V xs % V ys).toNat).length d']) ∧ (dg (V xs / V ys).toNat).length ≤ c' ∧ (dg (V xs % V ys).toNat).length ≤ d' ∧
        Rn w' A' (dg (V xs / V ys).toNat) ∧ Rn w' B' (dg (V xs % V ys).toNat) ∧ Below w.heap.size w w' := by
  have hy1 := kl.get (m + 1) (by omega)
  obtain ⟨bd, rfl, hcell⟩ := Knd.at_int k (m + 1) (by omega)
  have hcell2 : w.cell? ⟨bd.block, bd.off + (m + 1), none⟩ = some (.int .u32 (ys[m + 1]'(by omega))) := by rw [← hcell]; simp [Addr.add]
  obtain ⟨up, hup, eup, ht1, ht2⟩ := lead htop hy1.2
  have HLZ := Lib.hid (bits_LeadingZeros32 (ys[m + 1]'(by omega)) w hy1.1 (by omega))
  rw [eup] at HLZ
  have HMV := Lib.hid (fun W (hb : Below w.heap.size w W) => nat_moved (some bd) d ys up W (k.below hb) kl kc (by omega) hup)
  rw [hy] at HMV
  have HMU := Lib.hid (fun W (hb : Below w.heap.size w W) => nat_moved A c xs up W (h.below hb) hl hc hm hup)
  have HSH : Hid (∀ cs : List Int, cs.length = m + 3 → Lim cs → V cs = V ys * 2 ^ up → V (cs.take (m + 2)) = V ys * 2 ^ up ∧ 2147483648 ≤ (cs.take (m + 2)).getD (m + 1) 0) := fun cs h1 h2 h3 => by
    have := shifted hy kl h1 h2 h3 ht1 ht2
    refine ⟨this.1, ?_⟩
    rw [getD_lt (show m + 1 < (cs.take (m + 2)).length by simp; omega)]
    exact this.2
  have HT := Lib.hid htop
  have HX := Lib.hid hl
  have HY := Lib.hid hy
  have HYL := Lib.hid kl
  have HYp : Hid (Bp (m + 1) ≤ V ys) := V_pos_of_ne kl (by omega) (by omega)
  generalize ys[m + 1]'(by omega) = t at *
  clear eup ht1 ht2 h hl k kl hy htop hy1
  go_enter Try.func120, Try.ntmps120
  go_wp2_with fail
  refine HLZ.out.mono ?_
  clear HLZ
  rintro e w1 ⟨rfl, rfl⟩
  clear hcell hcell2
  go_wp2_with fail
  refine (HMV.out _ (Below.refl _ _)).mono ?_
  clear HMV
  rintro e w2 ⟨gv, cv, rfl, hcv, hov, hgv, hlv, hvv, hb2⟩
  have HB2 := Lib.hid hb2
  have HSV := Lib.hid (HSH.out cv hcv hlv hvv)
  have HOV := Lib.hid hov
  have HLV := Lib.hid hlv
  have HCV := Lib.hid hcv
  rw [hcv]
  clear HSH hvv hb2 hov hlv hcv
  go_wp2_with fail
  refine (HMU.out _ HB2.out).mono ?_
  clear HMU
  rintro e w3 ⟨gu, cu, rfl, hcu, hou, hgu, hlu, huu, hb3⟩
  have HB3 := Lib.hid (HB2.out.trans (hb3.mono HB2.out.size))
  have HOV3 := Lib.hid (Own.below HOV.out hb3 HOV.out.lt)
  have o1 := HOV.out.lt
  have o2 := hou.lt
  have o3 := HB2.out.size
  have o4 := hb3.size
  have hne : gv ≠ gu := by omega
  have HOU := Lib.hid hou
  have HLU := Lib.hid hlu
  have HCU := Lib.hid hcu
  have HUU := Lib.hid huu
  rw [hcu]
  clear huu hb3 hou hlu hcu HOV HB2
  have hmk := fun W => run_makeL (P := Try.prog) 27 96 Try.underlying27 info96 ((xs.length : Int) + 1 - ((m : Int) + 2)) (xs.length - m - 1) (by omega) (by omega) W
  go_wp2
  clear hmk
  have HVS := Lib.hid (HLV.out.take (m + 2))
  have HVL : Hid ((cv.take (m + 2)).length = m + 2) := by show _ = _; rw [List.length_take, HCV.out]; omega
  have hq0 : xs.length - m - 1 ≤ xs.length - m - 1 := Nat.le_refl _
  go_loopg [11] xs.length (fun gg s11 wr => ∃ (z : Int) (us qs : List Int), -1 ≤ z ∧ z ≤ (xs.length : Int) - (m : Int) - 2 ∧ z + 1 ≤ gg ∧ s11 = .int .i64 z ∧ us.length ≤ xs.length + 1 ∧ xs.length + 1 ≤ us.length ∧ qs.length ≤ xs.length - m - 1 ∧ xs.length - m - 1 ≤ qs.length ∧
    Hid (OwnN wr gu us) ∧ Hid (OwnN wr w3.heap.size qs) ∧ Hid (OwnN wr gv cv) ∧ Hid (Below w1.heap.size w1 wr) ∧ Hid (Lim us) ∧ Hid (Lim qs) ∧ Hid (V xs * 2 ^ up = V (qs.drop (z + 1).toNat) * Bp (z + 1).toNat * (V ys * 2 ^ up) + V us) ∧ Hid (V (us.drop (z + 1).toNat) < V ys * 2 ^ up))
  case atStart =>
    refine ⟨(xs.length : Int) + 1 - ((m : Int) + 2) - 1, cu, List.replicate (xs.length - m - 1) 0, by omega, by omega, by omega, rfl, by have := HCU.out; omega, by have := HCU.out; omega, by simp, by simp, Own.alloc HOU.out _, own_zeros _ _ _, Own.alloc HOV3.out _, HB3.out.alloc HB3.out.size _, HLU, Lim.zeros _, ?_, ?_⟩
    · show _ = _
      rw [show ((xs.length : Int) + 1 - ((m : Int) + 2) - 1 + 1).toNat = xs.length - m - 1 by omega, List.drop_of_length_le (by simp), HUU.out]
      simp [V]
    · show _ < _
      rw [show ((xs.length : Int) + 1 - ((m : Int) + 2) - 1 + 1).toNat = xs.length - m - 1 by omega]
      exact long_start rfl HX.out HCU.out HLU.out HUU.out rfl HYp.out hle
  case round =>
    obtain ⟨z, us, qs, hz1, hz2, hg, rfl, hl1, hl2, hk1, hk2, HU, HQ, HV, HB, HL, HQL, HE, HS⟩ := hrel
    by_cases h0 : 0 ≤ z
    · obtain ⟨k, rfl⟩ := Int.eq_ofNat_of_zero_le h0
      have hk3 : k + m + 3 ≤ us.length := by omega
      have hkz : (k : Int) + ((m : Int) + 2) + 1 ≤ (xs.length : Int) + 1 := by omega
      have hkz2 : k < xs.length + 1 := by omega
      go_wp2_with fail
      rw [show k + (m + 2) + 1 - k = m + 3 by omega]
      have hd1 : Hid (V (us.drop (k + 1)) < V ys * 2 ^ up) := by
        have := HS.out
        rwa [show ((k : Int) + 1).toNat = k + 1 by omega] at this
      have HP := Lib.hid (long_part (us := us) (k := k) (m := m) (W := V ys * 2 ^ up) HL.out hk3 hd1.out (by have h1 := HSV.out.1; have h2 := V_lt HVS.out; rw [HVL.out] at h2; omega))
      have hW0 : Hid (0 < V ys * 2 ^ up) := Int.mul_pos (by have := HYp.out; have := Bp_pos (m + 1); omega) (pow2_pos up)
      have hspl : Hid (us.take k ++ ((us.drop k).take (m + 3) ++ us.drop (k + m + 3)) = us) := by
        show _ = _
        rw [show us.drop (k + m + 3) = (us.drop k).drop (m + 3) by rw [List.drop_drop]; congr 1, List.take_append_drop, List.take_append_drop]
      have hfl : Hid (((us.drop k).take (m + 3)).length = m + 3) := by show _ = _; simp; omega
      refine (nat_digit gu k m (us.take k) ((us.drop k).take (m + 3)) (us.drop (k + m + 3)) (xs.length + 1 - k) ⟨gv, 0, none⟩ (cv.take (m + 2)) (m + 2 + 1) wr (by simp; omega) hfl.out HVL.out (by omega) (by omega)
        (by rw [hspl.out]; exact HU.out) ((HL.out.drop k).take (m + 3)) (OwnN.row (HV.out) |>.take (m + 2)) hne HVS.out (by have := HSV.out.2; rwa [getD_lt (by rw [HVL.out]; omega)] at this) (by rw [HSV.out.1, HP.out.1]; exact HP.out.2.2)).mono ?_
      rintro e w4 ⟨fs, rfl, hf1, hf2, hf3, hf4, hf5⟩
      rw [HSV.out.1] at hf3
      rw [HSV.out.1]
      have HST := Lib.hid (long_step (us := us) (fs := fs) (qs := qs) (k := k) (m := m) (W := V ys * 2 ^ up) (U := V xs * 2 ^ up) hk3 hf1 HP.out.1 HP.out.2.1 hW0.out (by omega) hf3 (by have := HE.out; rwa [show ((k : Int) + 1).toNat = k + 1 by omega] at this))
      have hq : 0 ≤ V ((us.drop k).take (m + 3)) / (V ys * 2 ^ up) ∧ V ((us.drop k).take (m + 3)) / (V ys * 2 ^ up) < 4294967296 := by
        constructor
        · exact Int.ediv_nonneg (V_nonneg ((HL.out.drop k).take (m + 3))) (by have := hW0.out; omega)
        · rw [Int.ediv_lt_iff_lt_mul hW0.out, HP.out.1]; exact HP.out.2.2
      generalize V ((us.drop k).take (m + 3)) / (V ys * 2 ^ up) = qd at *
      have hnq : w3.heap.size ≠ gu := by omega
      have HQ2 := Lib.hid (Own.grown HQ.out hf5 hnq)
      have HV2 := Lib.hid (Own.grown HV.out hf5 hne)
      have HB4 : Hid (Below w1.heap.size w1 w4) := HB.out.grown hf5 HB.out.size (fun b hb => by injection hb with hb; omega)
      have HU2 := Lib.hid hf4
      have HLF : Hid (Lim (us.take k ++ (fs ++ us.drop (k + m + 3)))) := (HL.out.take k).append (hf2.append (HL.out.drop _))
      have hul : (us.take k ++ (fs ++ us.drop (k + m + 3))).length = us.length := by simp [hf1]; omega
      have c3 := OwnN.cell HQ2.out k (by omega)
      have c4 := Own.frozen HQ2.out k
      generalize qs[k]'(by omega) = qo at c3
      clear hf1 hf2 hf3 hf4 hf5 hspl hfl HP
      generalize us.take k ++ (fs ++ us.drop (k + m + 3)) = us' at *
      go_wp2
      go_roundg k
      case measure => omega
      case rel =>
        refine ⟨(k : Int) - 1, us', qs.set k qd, by omega, by omega, by omega, rfl, by omega, by omega, by simpa using hk1, by simpa using hk2, Own.far HU2.out (fun e => hnq e.symm) _, OwnN.set HQ2.out _ _, Own.far HV2.out (show gv ≠ w3.heap.size by omega) _, HB4.out.setCell (show w1.heap.size ≤ w3.heap.size by omega) _, HLF, HQL.out.set _ hq.1 hq.2, ?_, ?_⟩
        · show _ = _
          rw [show ((k : Int) - 1 + 1).toNat = k by omega]
          exact HST.out.1
        · show _ < _
          rw [show ((k : Int) - 1 + 1).toNat = k by omega]
          exact HST.out.2
    · have hz : Hid ((z + 1).toNat = 0) := by show _ = _; omega
      have hE := Lib.hid HE.out
      have hS := Lib.hid HS.out
      rw [hz.out, List.drop_zero, Bp_zero, Int.mul_one] at hE
      rw [hz.out, List.drop_zero] at hS
      have HEND := Lib.hid (long_end (pow2_pos up) (by have := HYp.out; have := Bp_pos (m + 1); omega) hE.out (V_nonneg HL.out) hS.out)
      have hub : Hid (∀ j, m + 2 ≤ j → us.getD j 0 = 0) := fun j hj => by
        by_cases hj2 : j < us.length
        · rw [getD_lt hj2]
          apply Int.le_antisymm _ (HL.out.get j hj2).1
          apply Int.le_of_not_gt
          intro hgt
          have h1 := V_pos_of_ne HL.out hj2 (by omega)
          have h2 := Bp_le hj
          have h3 := HSV.out.1
          have h4 := V_lt HVS.out
          rw [HVL.out] at h4
          have h5 := hS.out
          omega
        · simp [List.getD, List.getElem?_eq_none (show us.length ≤ j by omega)]
      have hqn := Lib.hid (nat_own' (some ⟨w3.heap.size, 0, none⟩) (xs.length - m - 1) (xs.length - m - 1) qs)
      have hmk2 := fun W => run_makeL (P := Try.prog) 27 96 Try.underlying27 info96 ((m : Int) + 2) (m + 2) (by omega) (by omega) W
      clear HE HS hE hS HV HSV HVS HVL HCV HLV hne hz
      obtain ⟨wr0, hwr0⟩ : ∃ x : World, x = wr := ⟨_, rfl⟩
      have o5 := HQ.out.lt
      have o6 := HU.out.lt
      have o7 := HB.out.size
      go_wp2
      clear hmk2
      subst hwr0
      go_loopg [61] (m + 2) (fun gg s61 wr => ∃ (i : Nat) (rs : List Int), i ≤ m + 2 ∧ m + 2 - i ≤ gg ∧ s61 = .int .i64 i ∧ rs.length ≤ m + 2 ∧ m + 2 ≤ rs.length ∧ Hid (OwnN wr wr0.heap.size rs) ∧ Hid (OwnN wr gu us) ∧ Hid (Below wr0.heap.size wr0 wr) ∧ Hid (Lim rs) ∧
        Hid (V (rs.take i) * 2 ^ up = (V (us.take i) - us.getD 0 0 % 2 ^ up) + Bp i * (us.getD i 0 % 2 ^ up)))
      case atStart =>
        exact ⟨0, List.replicate (m + 2) 0, Nat.zero_le _, by omega, rfl, by simp, by simp, own_zeros _ _ _, Own.alloc HU.out _, (Below.refl _ _).alloc (Nat.le_refl _) _, Lim.zeros _, by show _ = _; simp [V, Bp_zero]; omega⟩
      case round =>
        obtain ⟨i, rs, hi, hg3, rfl, hm1, hm2, HO, HU3, HB5, HRL, HR⟩ := hrel
        by_cases hlt : i < m + 2
        · have hltz : (i : Int) < (m : Int) + 2 := by omega
          have a0 := OwnN.cell HU3.out i (by omega)
          have a1 := OwnN.cell HU3.out (i + 1) (by omega)
          have b0 := HL.out.get i (by omega)
          have b1 := HL.out.get (i + 1) (by omega)
          have c3 := OwnN.cell HO.out i (by omega)
          have c4 := Own.frozen HO.out i
          have g0 : Hid (us.getD i 0 = us[i]'(by omega)) := getD_lt (by omega)
          have g1 : Hid (us.getD (i + 1) 0 = us[i + 1]'(by omega)) := getD_lt (by omega)
          have hst := Lib.hid (V_take_set_succ (xs := rs) (k := i) (by omega))
          have HUV := Lib.hid (V_take_getD us i)
          generalize us[i]'(by omega) = x at *
          generalize us[i + 1]'(by omega) = y at *
          generalize rs[i]'(by omega) = ro at *
          have hq0 : (i : Int) + 1 < (xs.length : Int) + 1 := by omega
          go_wp2
          obtain ⟨wn, hwn⟩ : ∃ x : World, x = wr := ⟨_, rfl⟩
          go_region
          have hz := Lib.hid (down_or (x := x) (y := y) hup b0 b1)
          rw [hz.out.1]
          have HO2 := Lib.hid (OwnN.set HO.out i (x / 2 ^ up + (y % 2 ^ up) * 2 ^ (32 - up)))
          have HU4 := Lib.hid (Own.far HU3.out (p := ⟨wr0.heap.size, i, none⟩) (show gu ≠ wr0.heap.size by omega) (.int .u32 (x / 2 ^ up + (y % 2 ^ up) * 2 ^ (32 - up))))
          have HB6 := Lib.hid (HB5.out.setCell (p := ⟨wr0.heap.size, i, none⟩) (Nat.le_refl _) (.int .u32 (x / 2 ^ up + (y % 2 ^ up) * 2 ^ (32 - up))))
          clear hwn
          go_wp2
          go_roundg (m + 2 - (i + 1))
          case measure => omega
          case rel =>
            refine ⟨i + 1, rs.set i (x / 2 ^ up + (y % 2 ^ up) * 2 ^ (32 - up)), by omega, by omega, by go_num, by simpa using hm1, by simpa using hm2, Own.drew HO2.out, Own.drew HU4.out, HB6.out.drew, HRL.out.set _ hz.out.2.1 hz.out.2.2, ?_⟩
            show _ = _
            rw [hst.out, g1.out]
            have h1 := HR.out
            rw [g0.out] at h1
            rw [down_step (pow_split (Nat.le_of_lt hup)) rfl h1, HUV.out, g0.out]
            omega
        · have hltz : ¬ (i : Int) < (m : Int) + 2 := by omega
          have hkl : i = m + 2 := by omega
          subst hkl
          have hs0 := pow2_pos up
          have HV2 : Hid (V rs = V xs % V ys) := by
            show _ = _
            have h1 := HR.out
            rw [hub.out (m + 2) (Nat.le_refl _), V_take_all (by omega)] at h1
            have h2 : V (us.take (m + 2)) = V us := by
              refine (V_zero_tail (by omega) fun j hj hle2 => ?_).symm
              have := hub.out j hle2
              rwa [getD_lt hj] at this
            rw [h2, Int.zero_emod, Int.mul_zero, Int.add_zero] at h1
            have h3 : us.getD 0 0 % 2 ^ up = 0 := by
              have e1 : V us = us.getD 0 0 + 4294967296 * V (us.drop 1) := by
                have := V_drop (xs := us) (i := 0) (by omega)
                rw [List.drop_zero] at this
                rw [this, getD_lt (by omega)]
              have e2 := HEND.out.2
              rw [e1, ← pow_split (Nat.le_of_lt hup)] at e2
              have e3 : us.getD 0 0 = (V xs % V ys - 2 ^ (32 - up) * V (us.drop 1)) * 2 ^ up := by grind
              rw [e3]; exact Int.mul_emod_left ..
            rw [h3, Int.sub_zero, HEND.out.2] at h1
            exact Int.eq_of_mul_eq_mul_right (by omega) h1
          have HQn := Lib.hid (Own.below HQ.out HB5.out o5)
          have HB7 := Lib.hid (HB.out.trans (HB5.out.mono HB.out.size))
          have HE1 := Lib.hid HEND.out.1
          clear HEND HR hub
          have hQ1 := Lib.hid (nat_own' (some ⟨w3.heap.size, 0, none⟩) (xs.length - m - 1) (xs.length - m - 1) qs wr (by omega) (OwnN.row HQn.out) HQL.out (Nat.le_refl _) (by omega))
          rw [HE1.out] at hQ1
          go_wp2_with fail
          refine hQ1.out.mono ?_
          clear hQ1
          rintro e w5 ⟨A5, c5, rfl, g1, g2, g3⟩
          have G2 := Lib.hid g2
          have HB8 := Lib.hid (HB7.out.trans (g3.mono HB7.out.size))
          have HO8 := Lib.hid (Own.below HO.out g3 HO.out.lt)
          clear g2 g3
          have hR1 := Lib.hid (nat_own' (some ⟨wr0.heap.size, 0, none⟩) (m + 2) (m + 2) rs w5 (by omega) (OwnN.row HO8.out) HRL.out (Nat.le_refl _) (by omega))
          rw [HV2.out] at hR1
          go_wp2_with fail
          refine hR1.out.mono ?_
          clear hR1
          rintro e w6 ⟨A6, c6, rfl, g4, g5, g6⟩
          have G5 := Lib.hid g5
          have G2' := Lib.hid (G2.out.below g6)
          have HB9 := Lib.hid (HB8.out.trans (g6.mono HB8.out.size))
          clear g5 g6
          go_wp2
          go_ret2
          exact ⟨A5, c5, A6, c6, rfl, g1, g4, G2'.out, G5.out, HB9.out⟩
end Go.Proofs.Ytchdoignomidjaa.F

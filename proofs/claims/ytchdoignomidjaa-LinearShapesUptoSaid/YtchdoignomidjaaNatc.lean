/- The walks of package nat, third part: Mul, short. Conditions: the limbs are limbs, lengths below 2^39. -/
import Derived.Test.YtchdoignomidjaaNatb
set_option linter.unusedVariables false
set_option linter.unusedSimpArgs false
namespace Go.Proofs.Ytchdoignomidjaa.F
open Go.RowKit Go.Shelf

theorem ret_sl {A : Option Addr} {n m : Nat} {x : Value} (h : n = m) : Ending.returned (.tuple #[.slice A n n, x]) = .returned (.tuple #[.slice A m m, x]) := by rw [h]
theorem mul_step {i k : Nat} {x y z t c c' A A' X Y Z : Int} (ht : x * y + z + c = t + 4294967296 * c') (hA : A' = A + Bp (i + k) * (t - z)) (H : A + Bp (i + k) * c = X * Z + Bp i * x * Y) :
    A' + Bp (i + (k + 1)) * c' = X * Z + Bp i * x * (Y + Bp k * y) := by
  have e : Bp (i + (k + 1)) = 4294967296 * Bp (i + k) := Bp_succ (i + k)
  have : Bp (i + k) * (x * y + z + c) = Bp (i + k) * (t + 4294967296 * c') := by rw [ht]
  rw [e, hA]
  rw [Bp_add] at *
  grind
theorem mul_le_max {x y : Int} (hx : 0 ≤ x ∧ x < 4294967296) (hy : 0 ≤ y ∧ y < 4294967296) : 0 ≤ x * y ∧ x * y ≤ 18446744065119617025 := by
  constructor
  · exact Int.mul_nonneg hx.1 hy.1
  · have h1 : x * y ≤ 4294967295 * y := Int.mul_le_mul_of_nonneg_right (by omega) hy.1
    omega

set_option maxHeartbeats 4000000 in
theorem nat_Mul (A : Option Addr) (c : Nat) (xs : List Int) (B : Option Addr) (d : Nat) (ys : List Int) (w : World) (h : Rn w A xs) (hl : Lim xs) (hc : xs.length ≤ c) (hm : xs.length ≤ 549755813888)
    (k : Rn w B ys) (kl : Lim ys) (kc : ys.length ≤ d) (km : ys.length ≤ 549755813888) :
    Calls Try.prog 84 #[.slice A xs.length c, .slice B ys.length d] w fun e w' => Told w (V xs * V ys) e w' := by
  have HT1 := Lib.hid (nat_trim A c xs w h hl hc (by omega))
  have HT2 := Lib.hid (fun (W : World) (hb : Below w.heap.size w W) => nat_trim B d ys W (k.below hb) kl kc (by omega))
  have hle1 := nf_len hl
  have hle2 := nf_len kl
  have H2 := Lib.hid (Lim_nf xs)
  have K2 := Lib.hid (Lim_nf ys)
  rw [← V_nf hl, ← V_nf kl]
  generalize nf xs = us at *
  generalize nf ys = vs at *
  have hm1 : us.length ≤ 549755813888 := by omega
  have hm2 : vs.length ≤ 549755813888 := by omega
  clear h hl k kl hm km hle1 hle2
  have hmk := fun W => run_makeL (P := Try.prog) 27 96 Try.underlying27 info96 ((us.length : Int) + (vs.length : Int)) (us.length + vs.length) (by omega) (by omega) W
  go_enter Try.func84, Try.ntmps84
  go_wp2_with fail
  refine HT1.out.mono ?_
  clear HT1
  rintro e w1 ⟨rfl, h1, hb1⟩
  have HB1 := Lib.hid hb1
  have H1 := Lib.hid h1
  clear h1 hb1
  go_wp2_with fail
  refine (HT2.out _ HB1.out).mono ?_
  clear HT2
  rintro e wc ⟨rfl, k1, hb2⟩
  have K1 := Lib.hid k1
  have HBc := Lib.hid (HB1.out.trans (hb2.mono HB1.out.size))
  have H1' := Lib.hid (H1.out.below hb2)
  clear k1 hb2 HB1 H1
  go_wp2
  clear hmk
  go_loopg [22] us.length (fun gg s22 wr => ∃ (i : Nat) (cs : List Int), i ≤ us.length ∧ us.length - i ≤ gg ∧ s22 = .int .i64 i ∧ cs.length ≤ us.length + vs.length ∧ us.length + vs.length ≤ cs.length ∧
    Hid (OwnN wr wc.heap.size cs) ∧ Hid (Below wc.heap.size wc wr) ∧ Hid (Lim cs) ∧ Hid (V cs = V (us.take i) * V vs) ∧ Hid (∀ j (hj : j < cs.length), i + vs.length ≤ j → cs[j] = 0))
  case atStart =>
    refine ⟨0, List.replicate (us.length + vs.length) 0, Nat.zero_le _, by omega, rfl, by simp, by simp, own_zeros _ _ _, (Below.refl _ _).alloc (Nat.le_refl _) _, Lim.zeros _, ?_, ?_⟩
    · show _ = _
      rw [V_zeros]
      simp [V]
    · intro j hj _
      simp
  case round =>
    obtain ⟨i, cs, hi, hg, rfl, hl1, hl2, HO, HB, HL, HE, HZ⟩ := hrel
    by_cases hlt : i < us.length
    · have hltz : (i : Int) < (us.length : Int) := by omega
      obtain ⟨ad, rfl, hcell⟩ := Knd.at_int H1'.out i hlt
      have b1 := H2.out.get i hlt
      have HV := Lib.hid (V_take_succ hlt)
      generalize us[i] = x at *
      have HC1 := Lib.hid hcell
      clear hcell
      go_wp2
      obtain ⟨wo, HWO⟩ : ∃ wo : World, Hid (wo = wr) := ⟨_, rfl⟩
      have HO' := Lib.hid HO.out
      go_loopg [7, 27] vs.length (fun gg s7 s27 wr => ∃ (k : Nat) (cy : Int) (ds : List Int), k ≤ vs.length ∧ vs.length - k ≤ gg ∧ s27 = .int .i64 k ∧ s7 = .int .u64 cy ∧ 0 ≤ cy ∧ cy < 4294967296 ∧ ds.length ≤ us.length + vs.length ∧ us.length + vs.length ≤ ds.length ∧
        Hid (OwnN wr wc.heap.size ds) ∧ Hid (Below wc.heap.size wc wr) ∧ Hid (Lim ds) ∧ Hid (V ds + Bp (i + k) * cy = V (us.take i) * V vs + Bp i * x * V (vs.take k)) ∧ Hid (∀ j (hj : j < ds.length), i + vs.length ≤ j → ds[j] = 0))
      case atStart =>
        exact ⟨0, 0, cs, Nat.zero_le _, by omega, rfl, rfl, by omega, by omega, hl1, hl2, HO, HB, HL, by show _ = _; rw [HE.out]; simp [V], HZ⟩
      case round =>
        clear HO HB HL HE HZ hl1 hl2 HO' HWO
        obtain ⟨k, cy, ds, hk, hgi, rfl, rfl, hcy0, hcy1, hl1, hl2, HO, HB, HL, HE, HZ⟩ := hrel
        by_cases hlk : k < vs.length
        · have hlkz : (k : Int) < (vs.length : Int) := by omega
          obtain ⟨bd, rfl, hcell⟩ := Knd.at_int K1.out k hlk
          have c2 := cell_below HB.out hcell
          have c1 := cell_below HB.out HC1.out
          have b2 := K2.out.get k hlk
          have KV := Lib.hid (V_take_succ hlk)
          have c3 := OwnN.cell HO.out (i + k) (by omega)
          have c4 := Own.frozen HO.out (i + k)
          have b3 := HL.out.get (i + k) (by omega)
          have hst := Lib.hid (fun (y : Int) => V_set (xs := ds) (i := i + k) (by omega) y)
          have hle := mul_le_max b1 b2
          generalize vs[k] = y at *
          generalize ds[i + k]'(by omega) = z at *
          clear hcell
          obtain ⟨p, hp⟩ : ∃ p, p = x * y := ⟨_, rfl⟩
          have HP := Lib.hid hp
          rw [← hp] at hle
          clear hp
          have q1 : IntKind.u64.wrap (x * y) = p := by rw [← HP.out, u64w (by omega) (by omega)]
          have q2 : IntKind.i64.wrap ((i : Int) + (k : Int)) = (i : Int) + (k : Int) := i64w (by omega) (by omega)
          have q3 : ((i : Int) + (k : Int)).toNat = i + k := by omega
          have q4 : 0 ≤ (i : Int) + (k : Int) := by omega
          have q5 : (i : Int) + (k : Int) < (us.length : Int) + (vs.length : Int) := by omega
          go_wp2
          go_quiet (fail)
          go_wp2
          go_roundg (vs.length - (k + 1))
          case measure => omega
          case rel =>
            have ht : p + z + cy = (p + z + cy) % 4294967296 + 4294967296 * ((p + z + cy) / 4294967296) := by omega
            refine ⟨k + 1, (p + z + cy) / 4294967296, ds.set (i + k) ((p + z + cy) % 4294967296), by omega, by omega, by go_num, rfl, by omega, by omega, by simpa using hl1, by simpa using hl2, ?_, ?_, HL.out.set _ (by omega) (by omega), ?_, ?_⟩
            · first | exact OwnN.set HO.out _ _ | exact OwnN.set (Own.drewN HO.out _) _ _ | exact Own.drewN (OwnN.set HO.out _ _) _
            · first | exact (below_drewN HB.out _).setCell (Nat.le_refl _) _ | exact below_drewN (HB.out.setCell (Nat.le_refl _) _) _
            · show _ = _
              rw [KV.out]
              exact mul_step (by rw [← HP.out]; exact ht) (hst.out _) HE.out
            · intro j hj hle2
              rw [List.getElem_set_ne (show i + k ≠ j by omega)]
              exact HZ.out j (by simpa using hj) hle2
        · have hlkz : ¬ (k : Int) < (vs.length : Int) := by omega
          have hkl : k = vs.length := by omega
          subst hkl
          have c3 := OwnN.cell HO.out (i + vs.length) (by omega)
          have c4 := Own.frozen HO.out (i + vs.length)
          rw [HZ.out (i + vs.length) (by omega) (Nat.le_refl _)] at c3
          have hst := Lib.hid (fun (y : Int) => V_set (xs := ds) (i := i + vs.length) (by omega) y)
          have hz := Lib.hid (HZ.out (i + vs.length) (by omega) (Nat.le_refl _))
          have q1 : (i : Int) + (vs.length : Int) < (us.length : Int) + (vs.length : Int) := by omega
          go_wp2
          go_roundg (us.length - (i + 1))
          case measure => omega
          case rel =>
            refine ⟨i + 1, ds.set (i + vs.length) cy, by omega, by omega, by go_num, by simpa using hl1, by simpa using hl2, ?_, ?_, HL.out.set _ (by omega) (by omega), ?_, ?_⟩
            · have e : cy % 4294967296 = cy := by omega
              show OwnN _ _ _
              first | exact OwnN.set HO.out _ _ | (rw [e]; exact OwnN.set HO.out _ _)
            · exact HB.out.setCell (Nat.le_refl _) _
            · show _ = _
              have h1 := hst.out cy
              rw [hz.out] at h1
              have h2 := HE.out
              rw [V_take_all (Nat.le_refl _)] at h2
              rw [h1, HV.out, Int.add_mul, ← h2, Int.sub_zero]
            · intro j hj hle2
              rw [List.getElem_set_ne (show i + vs.length ≠ j by omega)]
              exact HZ.out j (by simpa using hj) (by omega)
    · have hltz : ¬ (i : Int) < (us.length : Int) := by omega
      have hkl : Hid (i = us.length) := by show _ = _; omega
      have HE2 : Hid (V cs = V us * V vs) := by
        show _ = _
        rw [HE.out, hkl.out, V_take_all (Nat.le_refl _)]
      clear HE HZ
      go_wp2_with fail
      refine (nat_own' (some ⟨wc.heap.size, 0, none⟩) (us.length + vs.length) (us.length + vs.length) cs _ (by omega) (OwnN.row HO.out) HL.out (Nat.le_refl _) (by omega)).mono ?_
      rintro e w' ⟨A', c', rfl, g1, g2, g3⟩
      rw [HE2.out] at *
      have G2 := Lib.hid g2
      have G3 := Lib.hid (HBc.out.trans ((HB.out.trans (g3.mono HB.out.size)).mono HBc.out.size))
      clear g2 g3
      go_wp2
      go_ret
      exact ⟨A', c', rfl, g1, G2.out, G3.out⟩

/-- one limb of a division by one limb, from the top -/
theorem short_step {Q Qn R Rn a b u q r : Int} (h : R * 4294967296 + a = q * b + r) (H : Q * b + R = u) : (4294967296 * Q + q) * b + r = 4294967296 * u + a := by
  have : 4294967296 * (Q * b + R) = 4294967296 * u := by rw [H]
  grind

set_option maxHeartbeats 2000000 in
/-- the quotient by one limb: as many limbs as the dividend, and what is left -/
theorem nat_short (A : Option Addr) (c : Nat) (xs : List Int) (b : Int) (w : World) (h : Rn w A xs) (hl : Lim xs) (hc : xs.length ≤ c) (hm : xs.length ≤ 1099511627776) (hb0 : 0 < b) (hb1 : b < 4294967296) :
    Calls Try.prog 119 #[.slice A xs.length c, .int .u32 b] w fun e w' =>
      ∃ g qs r, e = .returned (.tuple #[.slice (some ⟨g, 0, none⟩) (List.length qs) (List.length qs), .int .u32 r]) ∧ qs.length = xs.length ∧ OwnN w' g qs ∧ w.heap.size ≤ g ∧ Lim qs ∧ V qs * b + r = V xs ∧ 0 ≤ r ∧ r < b ∧ Below w.heap.size w w' := by
  have H1 := Lib.hid h
  have H2 := Lib.hid hl
  clear h hl
  have hmk := fun W => run_makeL (P := Try.prog) 27 96 Try.underlying27 info96 (xs.length : Int) xs.length rfl (by omega) W
  go_enter Try.func119, Try.ntmps119
  go_wp2
  clear hmk
  go_loopg [7, 8] xs.length (fun gg s7 s8 wr => ∃ (z r : Int) (qs : List Int), -1 ≤ z ∧ z < (xs.length : Int) ∧ z + 1 ≤ gg ∧ s8 = .int .i64 z ∧ s7 = .int .u32 r ∧ 0 ≤ r ∧ r < b ∧ qs.length ≤ xs.length ∧ xs.length ≤ qs.length ∧
    Hid (OwnN wr w.heap.size qs) ∧ Hid (Below w.heap.size w wr) ∧ Hid (Lim qs) ∧ Hid (V (qs.drop (z + 1).toNat) * b + r = V (xs.drop (z + 1).toNat)))
  case atStart =>
    refine ⟨(xs.length : Int) - 1, 0, List.replicate xs.length 0, by omega, by omega, by omega, rfl, rfl, by omega, by omega, by simp, by simp, own_zeros _ _ _, (Below.refl _ _).alloc (Nat.le_refl _) _, Lim.zeros _, ?_⟩
    show _ = _
    rw [show ((xs.length : Int) - 1 + 1).toNat = xs.length by omega, List.drop_of_length_le (by simp), List.drop_of_length_le (Nat.le_refl _)]
    simp [V]
  case round =>
    obtain ⟨z, r, qs, hz1, hz2, hg, rfl, rfl, hr0, hr1, hl1, hl2, HO, HB, HL, HE⟩ := hrel
    by_cases h0 : 0 ≤ z
    · obtain ⟨j, rfl⟩ := Int.eq_ofNat_of_zero_le h0
      have hj : j < xs.length := by omega
      obtain ⟨ad, rfl, hcell⟩ := Knd.at_int H1.out j hj
      have c1 := cell_below HB.out hcell
      have b1 := H2.out.get j hj
      have HV := Lib.hid (V_drop hj)
      have c3 := OwnN.cell HO.out j (by omega)
      have c4 := Own.frozen HO.out j
      have hst : Hid (∀ y : Int, V ((qs.set j y).drop j) = y + 4294967296 * V (qs.drop (j + 1))) := fun y => by
        rw [V_drop (by simp; omega), List.getElem_set_self, List.drop_set_of_lt (by omega)]
      generalize xs[j] = x at *
      generalize qs[j]'(by omega) = u at *
      clear hcell
      have HD := Lib.hid (bits_Div32 r x b wr ⟨hr0, hr1⟩ b1 hb1)
      have q1 : 0 ≤ (r * 4294967296 + x) / b := Int.ediv_nonneg (by omega) (by omega)
      have q2 : (r * 4294967296 + x) / b < 4294967296 := by
        rw [Int.ediv_lt_iff_lt_mul hb0]
        have : (r + 1) * 4294967296 ≤ b * 4294967296 := by omega
        omega
      have q3 : 0 ≤ (r * 4294967296 + x) % b := Int.emod_nonneg _ (by omega)
      have q4 : (r * 4294967296 + x) % b < b := Int.emod_lt_of_pos _ (by omega)
      have hqr : Hid (r * 4294967296 + x = (r * 4294967296 + x) / b * b + (r * 4294967296 + x) % b) := by
        show _ = _
        have := Int.mul_ediv_add_emod (r * 4294967296 + x) b
        rw [Int.mul_comm] at this
        omega
      generalize (r * 4294967296 + x) / b = q at *
      generalize (r * 4294967296 + x) % b = r' at *
      go_wp2_with fail
      refine HD.out.mono ?_
      clear HD
      rintro e w2 ⟨rfl, hb2⟩
      have c3' := cell_below hb2 c3
      have c4' : w2.frozen? ⟨w.heap.size, j, none⟩ = false := (hb2.frozen (p := ⟨w.heap.size, j, none⟩) (HO.out.lt)).trans c4
      have HO2 := Lib.hid (Own.below HO.out hb2 HO.out.lt)
      have HB2 := Lib.hid (HB.out.trans (hb2.mono HB.out.size))
      clear hb2 c3 c4 c1
      go_wp2
      go_roundg j
      case measure => omega
      case rel =>
        refine ⟨(j : Int) - 1, r', qs.set j q, by omega, by omega, by omega, rfl, rfl, q3, q4, by simpa using hl1, by simpa using hl2, OwnN.set HO2.out _ _, HB2.out.setCell (Nat.le_refl _) _, HL.out.set _ q1 q2, ?_⟩
        show _ = _
        rw [show ((j : Int) - 1 + 1).toNat = j by omega, hst.out, HV.out]
        have h1 := HE.out
        rw [show ((j : Int) + 1).toNat = j + 1 by omega] at h1
        have := short_step (Qn := 0) (Rn := 0) hqr.out h1
        rw [Int.add_comm q, Int.add_comm x]
        exact this
    · have hz : Hid ((z + 1).toNat = 0) := by show _ = _; omega
      have HE2 : Hid (V qs * b + r = V xs) := by
        show _ = _
        have := HE.out
        rwa [hz.out, List.drop_zero, List.drop_zero] at this
      have hlen : Hid (qs.length = xs.length) := by show _ = _; omega
      have hl3 := hlen.out
      go_wp2
      go_ret2
      exact ⟨w.heap.size, qs, r, ret_sl hl3.symm, hl3, HO.out, Nat.le_refl _, HL.out, HE2.out, hr0, hr1, HB.out⟩
end Go.Proofs.Ytchdoignomidjaa.F

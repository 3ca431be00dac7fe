/- The walks of package nat, fourth part: moved, digit, long, Div. Conditions: the limbs are limbs, lengths below 2^39. -/
import Derived.Test.YtchdoignomidjaaNatc
import Derived.Test.YtchdoignomidjaaKnuth
import Derived.StillTailTactics
import Derived.BigRegion
set_option linter.unusedVariables false
set_option linter.unusedSimpArgs false
namespace Go.Proofs.Ytchdoignomidjaa.F
open Go.RowKit Go.Shelf

theorem ret_slc {A : Option Addr} {n m : Nat} (h : n = m) : Ending.returned (.slice A n n) = .returned (.slice A m m) := by rw [h]
/-- powers of 2 up to a limb -/
theorem pow_split {up : Nat} (h : up ≤ 32) : (2 : Int) ^ up * 2 ^ (32 - up) = 4294967296 := by
  rw [← Int.pow_add, show up + (32 - up) = 32 by omega]; rfl
theorem pow2_pos (n : Nat) : (0 : Int) < 2 ^ n := Int.pow_pos (by decide)
theorem shr_eq {x : Int} {up : Nat} (h : up ≤ 32) : x / 2 ^ (32 - up) = x * 2 ^ up / 4294967296 := by
  rw [← pow_split h, Int.mul_comm x, Int.mul_ediv_mul_of_pos _ _ (pow2_pos up)]
theorem or_low {z x : Int} {up : Nat} (hup : up ≤ 32) (hz0 : 0 ≤ z) (hz1 : z < 2 ^ up) (hx : 0 ≤ x ∧ x < 4294967296) :
    bits .or .u32 z (x * 2 ^ up % 4294967296) = z + x * 2 ^ up % 4294967296 ∧ z + x * 2 ^ up % 4294967296 < 4294967296 := by
  have hp := pow_split hup
  have hs := pow2_pos up
  have hs2 := pow2_pos (32 - up)
  have e : x * 2 ^ up % 4294967296 = (x % 2 ^ (32 - up)) * 2 ^ up := by
    rw [← hp, Int.mul_comm x, Int.mul_emod_mul_of_pos _ _ hs, Int.mul_comm]
  have h0 := Int.emod_nonneg x (show (2 : Int) ^ (32 - up) ≠ 0 by omega)
  have h1 := Int.emod_lt_of_pos x hs2
  have h2 : (x % 2 ^ (32 - up) + 1) * 2 ^ up ≤ 2 ^ (32 - up) * 2 ^ up := mul_mono (by omega) (by omega)
  have h3 : (2 : Int) ^ (32 - up) * 2 ^ up = 4294967296 := by rw [Int.mul_comm]; exact hp
  have h4 : (x % 2 ^ (32 - up) + 1) * 2 ^ up = (x % 2 ^ (32 - up)) * 2 ^ up + 2 ^ up := by grind
  have h5 : 0 ≤ (x % 2 ^ (32 - up)) * 2 ^ up := Int.mul_nonneg h0 (by omega)
  have h6 : (2 : Int) ^ up ≤ 4294967296 := by
    have : (2 : Int) ^ up * 1 ≤ 2 ^ up * 2 ^ (32 - up) := mul_mono' (by omega) (by omega)
    omega
  rw [e]
  refine ⟨?_, by omega⟩
  rw [u32_or _ _ hz0 (by omega) h5 (by omega)]
  obtain ⟨m, hm⟩ := Int.eq_ofNat_of_zero_le h0
  obtain ⟨n, rfl⟩ := Int.eq_ofNat_of_zero_le hz0
  rw [hm]
  have e2 : ((m : Int) * 2 ^ up).toNat = m * 2 ^ up := by
    rw [show ((m : Int) * 2 ^ up) = ((m * 2 ^ up : Nat) : Int) by simp]; exact Int.toNat_natCast _
  rw [e2, Nat.or_comm, nat_join up _ _ (Nat.mul_mod_left _ _) (by simp only [Int.toNat_natCast]; exact_mod_cast hz1)]
  simp
  omega
theorem moved_step {i : Nat} {s x z d : Int} {a b X : Int} (hd : d = x * s) (H : a + Bp i * z = X * s) (hb : b = a + Bp i * (z + d % 4294967296)) : b + Bp (i + 1) * (d / 4294967296) = (X + Bp i * x) * s := by
  rw [Bp_succ, hb]
  have h1 : d = 4294967296 * (d / 4294967296) + d % 4294967296 := (Int.mul_ediv_add_emod d 4294967296).symm
  generalize d / 4294967296 = q at *
  generalize d % 4294967296 = r at *
  have : Bp i * d = Bp i * (4294967296 * q + r) := by rw [← h1]
  rw [hd] at this
  grind

set_option maxHeartbeats 2000000 in
/-- a number times 2 to the up, with one limb more -/
theorem nat_moved (A : Option Addr) (c : Nat) (xs : List Int) (up : Nat) (w : World) (h : Rn w A xs) (hl : Lim xs) (hc : xs.length ≤ c) (hm : xs.length ≤ 549755813888) (hup : up < 32) :
    Calls Try.prog 139 #[.slice A xs.length c, .int .i64 (up : Int)] w fun e w' =>
      ∃ g cs, e = .returned (.slice (some ⟨g, 0, none⟩) (List.length cs) (List.length cs)) ∧ cs.length = xs.length + 1 ∧ OwnN w' g cs ∧ w.heap.size ≤ g ∧ Lim cs ∧ V cs = V xs * 2 ^ up ∧ Below w.heap.size w w' := by
  have H1 := Lib.hid h
  have H2 := Lib.hid hl
  clear h hl
  have hmk := fun W => run_makeL (P := Try.prog) 27 96 Try.underlying27 info96 ((xs.length : Int) + 1) (xs.length + 1) (by omega) (by omega) W
  go_enter Try.func139, Try.ntmps139
  go_wp2
  clear hmk
  go_loopg [13] xs.length (fun gg s13 wr => ∃ (i : Nat) (cs : List Int), i ≤ xs.length ∧ xs.length - i ≤ gg ∧ s13 = .int .i64 i ∧ cs.length ≤ xs.length + 1 ∧ xs.length + 1 ≤ cs.length ∧
    Hid (OwnN wr w.heap.size cs) ∧ Hid (Below w.heap.size w wr) ∧ Hid (Lim cs) ∧ Hid (V (cs.take i) + Bp i * cs.getD i 0 = V (xs.take i) * 2 ^ up) ∧ Hid (cs.getD i 0 < 2 ^ up) ∧ Hid (∀ j (hj : j < cs.length), i < j → cs[j] = 0))
  case atStart =>
    refine ⟨0, List.replicate (xs.length + 1) 0, Nat.zero_le _, by omega, rfl, by simp, by simp, own_zeros _ _ _, (Below.refl _ _).alloc (Nat.le_refl _) _, Lim.zeros _, ?_, ?_, ?_⟩
    · show _ = _
      simp [V]
    · show _ < _
      simp
      exact Int.pow_pos (by decide)
    · intro j hj _
      simp
  case round =>
    obtain ⟨i, cs, hi, hg, rfl, hl1, hl2, HO, HB, HL, HE, HS, HZ⟩ := hrel
    by_cases hlt : i < xs.length
    · have hltz : (i : Int) < (xs.length : Int) := by omega
      obtain ⟨ad, rfl, hcell⟩ := Knd.at_int H1.out i hlt
      have c1 := cell_below HB.out hcell
      have hcell0 := hcell
      have b1 := H2.out.get i hlt
      have HV := Lib.hid (V_take_succ hlt)
      have c3 := OwnN.cell HO.out i (by omega)
      have c4 := Own.frozen HO.out i
      have b3 := HL.out.get i (by omega)
      have e3 : Hid (cs.getD i 0 = cs[i]) := by show _ = _; simp [List.getD, List.getElem?_eq_getElem (show i < cs.length by omega)]
      generalize xs[i] = x at *
      generalize cs[i]'(by omega) = z at *
      clear hcell
      go_wp2
      go_region
      have hz := Lib.hid (or_low (z := z) (x := x) (Nat.le_of_lt hup) b3.1 (by rw [← e3.out]; exact HS.out) b1)
      rw [hz.out.1]
      have hz2 := hz.out.2
      have hz3 := Int.emod_nonneg (x * 2 ^ up) (show (4294967296 : Int) ≠ 0 by decide)
      have hsh := Lib.hid (shr_eq (x := x) (Nat.le_of_lt hup))
      have HO1 := Lib.hid (OwnN.set HO.out i (z + x * 2 ^ up % 4294967296))
      have d3 := OwnN.cell HO1.out (i + 1) (by simp; omega)
      have d4 := Own.frozen HO1.out (i + 1)
      rw [List.getElem_set_ne (by omega), HZ.out (i + 1) (by omega) (by omega)] at d3
      obtain ⟨w2, hw2⟩ : ∃ w2, w2 = wr.setCell ⟨w.heap.size, i, none⟩ (.int .u32 (z + x * 2 ^ up % 4294967296)) := ⟨_, rfl⟩
      have HB1 := Lib.hid (HB.out.setCell (p := ⟨w.heap.size, i, none⟩) (Nat.le_refl _) (.int .u32 (z + x * 2 ^ up % 4294967296)))
      have c1' := cell_below HB1.out hcell0
      rw [← hw2] at HO1 d3 d4 HB1 c1' ⊢
      clear hw2 c1 c3 c4
      go_wp2
      go_roundg (xs.length - (i + 1))
      case measure => omega
      case rel =>
        have hp := pow_split (Nat.le_of_lt hup)
        have hs0 := pow2_pos up
        have hd0 : 0 ≤ x * 2 ^ up := Int.mul_nonneg b1.1 (by omega)
        have hd1 : x * 2 ^ up / 4294967296 < 2 ^ up := by
          rw [Int.ediv_lt_iff_lt_mul (by decide), Int.mul_comm]
          exact Int.mul_lt_mul_of_pos_left b1.2 hs0
        have hd2 : 0 ≤ x * 2 ^ up / 4294967296 := Int.ediv_nonneg hd0 (by decide)
        have hs1 : (2 : Int) ^ up ≤ 4294967296 := by
          have : (2 : Int) ^ up * 1 ≤ 2 ^ up * 2 ^ (32 - up) := mul_mono' (by have := pow2_pos (32 - up); omega) (by omega)
          omega
        have e1 : x / 2 ^ (32 - up) % 4294967296 = x * 2 ^ up / 4294967296 := by rw [hsh.out]; exact Int.emod_eq_of_lt hd2 (by omega)
        have hz3 : 0 ≤ x * 2 ^ up % 4294967296 := Int.emod_nonneg _ (by decide)
        have hi1 : i + 1 < (cs.set i (z + x * 2 ^ up % 4294967296)).length := by simp; omega
        refine ⟨i + 1, (cs.set i (z + x * 2 ^ up % 4294967296)).set (i + 1) (x * 2 ^ up / 4294967296), by omega, by omega, by go_num, by simpa using hl1, by simpa using hl2, ?_, ?_, (HL.out.set _ (by omega) hz.out.2).set _ hd2 (by omega), ?_, ?_, ?_⟩
        · show OwnN _ _ _
          rw [e1]
          exact OwnN.set HO1.out _ _
        · exact (HB1.out.setCell (p := ⟨w.heap.size, i + 1, none⟩) (Nat.le_refl _) _).drew
        · show _ = _
          rw [HV.out, List.take_set_of_le (Nat.le_refl _)]
          have e4 : ((cs.set i (z + x * 2 ^ up % 4294967296)).set (i + 1) (x * 2 ^ up / 4294967296)).getD (i + 1) 0 = x * 2 ^ up / 4294967296 := by
            rw [List.getD, List.getElem?_set_self hi1]; rfl
          rw [e4]
          have H := HE.out
          rw [e3.out] at H
          refine moved_step rfl H ?_
          rw [V_take_set_succ (by omega)]
        · show _ < _
          rw [List.getD, List.getElem?_set_self hi1]
          exact hd1
        · intro j hj hle
          rw [List.getElem_set_ne (by omega), List.getElem_set_ne (by omega)]
          exact HZ.out j (by simpa using hj) (by omega)
    · have hltz : ¬ (i : Int) < (xs.length : Int) := by omega
      have hkl : Hid (i = xs.length) := by show _ = _; omega
      have hlen : Hid (cs.length = xs.length + 1) := by show _ = _; omega
      have HE2 : Hid (V cs = V xs * 2 ^ up) := by
        show _ = _
        have h1 := HE.out
        rw [← V_take_getD, hkl.out, V_take_all (by omega), V_take_all (Nat.le_refl _)] at h1
        exact h1
      clear HE HZ HS
      go_wp2
      go_ret
      exact ⟨w.heap.size, cs, ret_slc hlen.out.symm, hlen.out, HO.out, Nat.le_refl _, HL.out, HE2.out, HB.out⟩
end Go.Proofs.Ytchdoignomidjaa.F

/- The walks of the reference's layer 1, fourth part: Bit, Shift by -1. -/
import Derived.Test.YtchdoignomidjaaRefc
set_option linter.unusedVariables false
set_option linter.unusedSimpArgs false
namespace Go.Proofs.Ytchdoignomidjaa.F
open Go.RowKit Go.Shelf Go.Proofs.YtchdoignomidjaaW.PrintLast

theorem and_one {a : Int} (h0 : 0 ≤ a) (h1 : a < 4294967296) : bits .and .u32 a 1 = a % 2 := by
  obtain ⟨n, rfl⟩ := Int.eq_ofNat_of_zero_le h0
  unfold bits
  show IntKind.u32.wrap ((BitVec.ofInt 32 (n : Int) &&& BitVec.ofInt 32 1).toNat : Int) = _
  rw [BitVec.toNat_and, BitVec.toNat_ofInt, BitVec.toNat_ofInt]
  have e1 : ((n : Int) % ((2 ^ 32 : Nat) : Int)).toNat = n := by simp; omega
  have e2 : ((1 : Int) % ((2 ^ 32 : Nat) : Int)).toNat = 1 := by decide
  rw [e1, e2, Nat.and_one_is_mod, IntKind.wrap_u32]
  omega
/-- a digit of a number is a digit of its limb -/
theorem bit_limb {X T D x : Int} {j r : Nat} (hr : r < 32) (hT : 0 ≤ T ∧ T < Bp j) (hX : X = T + Bp j * (x + 4294967296 * D)) : X / 2 ^ (32 * j + r) % 2 = x / 2 ^ r % 2 := by
  have e1 : (2 : Int) ^ (32 * j + r) = Bp j * 2 ^ r := by
    rw [Int.pow_add, Int.pow_mul]; rfl
  rw [e1, ← Int.ediv_ediv_of_nonneg (Int.le_of_lt (Bp_pos j)), hX, Int.add_mul_ediv_left _ _ (by have := Bp_pos j; omega), Int.ediv_eq_zero_of_lt hT.1 hT.2, Int.zero_add]
  have e2 : (4294967296 : Int) = 2 ^ r * (2 * 2 ^ (31 - r)) := by
    have : (2 : Int) ^ r * (2 * 2 ^ (31 - r)) = 2 ^ (r + (1 + (31 - r))) := by rw [Int.pow_add, Int.pow_add]; rfl
    rw [this, show r + (1 + (31 - r)) = 32 by omega]; rfl
  have e3 : x + 4294967296 * D = x + 2 ^ r * (2 * (2 ^ (31 - r) * D)) := by rw [e2]; grind
  rw [e3, Int.add_mul_ediv_left _ _ (by have := pow2_pos r; omega)]
  generalize (2 : Int) ^ (31 - r) * D = z
  omega

set_option maxHeartbeats 2000000 in
theorem r1_Bit (A : Option Addr) (c : Nat) (xs : List Int) (i : Nat) (w : World) (h : In w A c xs) (hm : xs.length ≤ 1099511627776) (hi : i < 140737488355328) :
    Calls Try.prog 123 #[.slice A xs.length c, .int .i64 i] w fun e w' => e = .returned (.bool (decide (V xs / 2 ^ i % 2 = 1))) ∧ w' = w := by
  have hc := h.cap
  by_cases hlt : i / 32 < xs.length
  · obtain ⟨ad, rfl, hcell⟩ := Knd.at_int h.row (i / 32) hlt
    have hb := h.lim.get (i / 32) hlt
    have hx := Lib.hid (show decide (V xs / 2 ^ i % 2 = 1) = decide (xs[i / 32] / 2 ^ (i % 32) % 2 = 1) from by
      have h1 := V_split xs (i / 32) (by omega)
      rw [V_drop hlt] at h1
      have h2 := bit_limb (r := i % 32) (by omega) (V_take_lt h.lim (i / 32)) h1
      rw [show 32 * (i / 32) + i % 32 = i by omega] at h2
      rw [h2])
    clear h
    have q1 : (i : Int) / 32 = ((i / 32 : Nat) : Int) := by omega
    have q2 : (i : Int) % 32 = ((i % 32 : Nat) : Int) := by omega
    have q3 : i % 32 < 32 := by omega
    generalize i / 32 = j at *
    generalize i % 32 = r at *
    generalize xs[j] = x at *
    go_enter Try.func123, Try.ntmps123
    go_wp2
    go_ret
    have h1 := pow2_pos r
    have h2 : 0 ≤ x / 2 ^ r := Int.ediv_nonneg hb.1 (by omega)
    have h3 : x / 2 ^ r ≤ x := Int.ediv_le_self _ hb.1
    rw [and_one h2 (by omega), hx.out]
    exact ⟨ret_bool rfl, rfl⟩
  · have hx := Lib.hid (show decide (V xs / 2 ^ i % 2 = 1) = false from by
      have h1 := V_nonneg h.lim
      have h2 := V_lt h.lim
      have h3 : Bp xs.length ≤ 2 ^ i := by
        have h4 : (2 : Int) ^ i = Bp xs.length * 2 ^ (i - 32 * xs.length) := by
          rw [show Bp xs.length = (2 : Int) ^ (32 * xs.length) by rw [Int.pow_mul]; rfl, ← Int.pow_add]
          congr 1; omega
        have h5 := pow2_pos (i - 32 * xs.length)
        have h6 : Bp xs.length * 1 ≤ Bp xs.length * 2 ^ (i - 32 * xs.length) := Int.mul_le_mul_of_nonneg_left (by omega) (Int.le_of_lt (Bp_pos _))
        omega
      rw [Int.ediv_eq_zero_of_lt h1 (by omega)]
      rfl)
    clear h
    have q1 : (i : Int) / 32 = ((i / 32 : Nat) : Int) := by omega
    generalize i / 32 = j at *
    have q4 : ¬ (j : Int) < (xs.length : Int) := by omega
    go_enter Try.func123, Try.ntmps123
    go_wp2
    go_ret
    rw [hx.out]
    exact ⟨rfl, rfl⟩

theorem half_step {p X x h l : Int} (hx : x = 2 * h + l) : (X + 4294967296 * p * x) / 2 = X / 2 + p * (2147483648 * l) + 4294967296 * p * h := by
  have e : X + 4294967296 * p * x = X + 2 * (p * (2147483648 * l) + 4294967296 * p * h) := by subst hx; grind
  rw [e, Int.add_mul_ediv_left _ _ (by decide)]
  omega

theorem or_zero {y : Int} (h0 : 0 ≤ y) (h1 : y < 4294967296) : bits .or .u32 0 y = y := by
  rw [Go.u32_or 0 y (by omega) (by omega) h0 h1]
  simp
  omega

set_option maxHeartbeats 4000000 in
theorem r1_Half (A : Option Addr) (c : Nat) (xs : List Int) (w : World) (h : In w A c xs) (hm : xs.length ≤ 1099511627776) :
    Calls Try.prog 124 #[.slice A xs.length c, .int .i64 (-1)] w fun e w' =>
      ∃ A' c', e = .returned (.tuple #[.slice A' (dg (V xs / 2).toNat).length c', .int .i64 0]) ∧ (dg (V xs / 2).toNat).length ≤ c' ∧ Rn w' A' (dg (V xs / 2).toNat) ∧ Below w.heap.size w w' := by
  have hc := h.cap
  have hN := Lib.hid (r1_Norm A c xs w h (by omega))
  have hln : (dg (V xs).toNat).length = 0 ↔ V xs = 0 := by have := V_nonneg h.lim; rw [List.length_eq_zero_iff, dg_eq_nil]; omega
  have H1 := Lib.hid h.row
  have L1 := Lib.hid h.lim
  clear h
  unfold Told at hN
  generalize hS : V xs / 2 = S
  have HS := Lib.hid hS
  clear hS
  generalize (dg (V xs).toNat) = ds at *
  go_enter Try.func124, Try.ntmps124
  go_wp2_with fail
  refine hN.out.mono ?_
  clear hN
  rintro e w1 ⟨A1, c1, rfl, g1, g2, g3⟩
  have HB := Lib.hid g3
  clear g2 g3
  by_cases hz : ds.length = 0
  · obtain rfl : ds = [] := List.length_eq_zero_iff.1 hz
    have hS0 : S = 0 := by rw [← HS.out, hln.1 rfl]; rfl
    subst hS0
    clear hln HS
    go_wp2
    go_ret2
    rw [show dg (0 : Int).toNat = [] from dg_zero]
    exact ⟨_, _, rfl, Nat.le_refl _, Rn.nil _ _, HB.out.alloc HB.out.size _⟩
  · have hz' : ((ds.length : Int) == 0) = false := by simpa using hz
    have hmk := fun W => run_makeL (P := Try.prog) 27 96 Try.underlying27 info96 (xs.length : Int) xs.length (by omega) (by omega) W
    clear hln
    go_wp2
    clear hmk hz hz' g1
    go_loopg [10] xs.length (fun gg s10 wr => ∃ (i : Nat) (cs : List Int), i ≤ xs.length ∧ xs.length - i ≤ gg ∧ s10 = .int .i64 i ∧ cs.length ≤ xs.length ∧ xs.length ≤ cs.length ∧
      Hid (OwnN wr w1.heap.size cs) ∧ Hid (Below w.heap.size w wr) ∧ Hid (Lim cs) ∧ Hid (V cs = V (xs.take i) / 2) ∧ Hid (∀ j (hj : j < cs.length), (i ≤ j → cs[j] = 0) ∧ cs[j] < 2147483648 ∨ j + 1 < i))
    case atStart =>
      refine ⟨0, List.replicate xs.length 0, by omega, by omega, rfl, by simp, by simp, own_zeros _ _ _, HB.out.alloc HB.out.size _, Lim.zeros _, ?_, ?_⟩
      · show _ = _; rw [V_zeros]; simp [V]
      · exact fun j hj => .inl ⟨fun _ => by simp, by simp⟩
    case round =>
      obtain ⟨i, cs, hi, hg, rfl, hl1, hl2, HO, HD, HL, HE, HZ⟩ := hrel
      by_cases hlt : i < xs.length
      · have hltz : (i : Int) < (xs.length : Int) := by omega
        obtain ⟨ad, rfl, hcell⟩ := Knd.at_int H1.out i hlt
        have c1 := cell_below HD.out hcell
        have b1 := L1.out.get i hlt
        have HV := Lib.hid (V_take_succ hlt)
        generalize xs[i] = x at *
        clear hcell
        have hst := Lib.hid (fun (y : Int) => V_set (xs := cs) (i := i) (by omega) y)
        have hzi : cs[i]'(by omega) = 0 := by
          rcases HZ.out i (by omega) with h1 | h1
          · exact h1.1 (Nat.le_refl _)
          · omega
        have d3 := OwnN.cell HO.out i (by omega)
        have d4 := Own.frozen HO.out i
        rw [hzi] at d3
        obtain ⟨hh, hhe⟩ : ∃ hh, hh = x / 2 := ⟨_, rfl⟩
        have q6 : x * 2147483648 / 4294967296 = hh := by omega
        have q8 : bits .or .u32 0 hh = hh := or_zero (by omega) (by omega)
        have hhb : 0 ≤ hh ∧ hh < 2147483648 := by omega
        have HH := Lib.hid hhe
        clear hhe
        by_cases h0 : i = 0
        · have q1 : IntKind.i64.wrap ((i : Int) + -1) = -1 := by rw [i64w (by omega) (by omega)]; omega
          have q0 : (i : Int) = 0 := by omega
          have Q0 := Lib.hid h0
          have d3' := d3
          have d4' := d4
          rw [h0] at d3' d4'
          have q3 : (0 : Int) < (xs.length : Int) := by omega
          clear h0 q0 d3 d4
          go_wp2
          go_roundg (xs.length - (i + 1))
          case measure => omega
          case rel =>
            have hi0 := Q0.out
            subst hi0
            refine ⟨1, cs.set 0 hh, by omega, by omega, by go_num, by simpa using hl1, by simpa using hl2, OwnN.set HO.out _ _, HD.out.setCell HB.out.size _, HL.out.set _ hhb.1 (by omega), ?_, ?_⟩
            · show _ = _
              have e1 := hst.out hh
              have e2 := HE.out
              rw [hzi] at e1
              rw [e1, e2, HV.out, HH.out]
              simp only [List.take_zero, V, Bp_zero]
              omega
            · intro j hj
              by_cases hj0 : j = 0
              · subst hj0
                exact .inl ⟨fun h => absurd h (by omega), by simpa using hhb.2⟩
              · rw [List.getElem_set_ne (by omega)]
                rcases HZ.out j (by simpa using hj) with h1 | h1
                · exact .inl ⟨fun h => h1.1 (by omega), h1.2⟩
                · exact .inr (by omega)
        · obtain ⟨m, hm2⟩ : ∃ m, i = m + 1 := ⟨i - 1, by omega⟩
          have q1 : IntKind.i64.wrap ((i : Int) + -1) = (m : Int) := by rw [i64w (by omega) (by omega)]; omega
          have q2 : IntKind.i64.wrap ((m : Int) + 1) = (i : Int) := by rw [i64w (by omega) (by omega)]; omega
          have q3 : (m : Int) < (xs.length : Int) := by omega
          have q4 : m ≠ i := by omega
          have q5 : i ≠ m := by omega
          have c3 := OwnN.cell HO.out m (by omega)
          have c4 := Own.frozen HO.out m
          have hsm := Lib.hid (fun (y : Int) => V_set (xs := cs) (i := m) (by omega) y)
          have hzb : 0 ≤ cs[m]'(by omega) ∧ cs[m]'(by omega) < 2147483648 := by
            have h1 := HL.out.get m (by omega)
            rcases HZ.out m (by omega) with h2 | h2
            · exact ⟨h1.1, h2.2⟩
            · omega
          generalize cs[m]'(by omega) = z at *
          obtain ⟨l, hl⟩ : ∃ l, l = x * 2147483648 % 4294967296 := ⟨_, rfl⟩
          have q7 := hl.symm
          have ho := or_low (z := z) (x := x) (up := 31) (by omega) hzb.1 (by show z < 2147483648; exact hzb.2) b1
          rw [show (2 : Int) ^ 31 = 2147483648 from rfl, ← hl] at ho
          have hlv : l = 2147483648 * (x % 2) := by omega
          obtain ⟨y, hy⟩ : ∃ y, y = z + l := ⟨_, rfl⟩
          rw [← hy] at ho
          have q9 := ho.1
          have hyb : 0 ≤ y ∧ y < 4294967296 := by omega
          have HLV := Lib.hid hlv
          have HY := Lib.hid hy
          have HM := Lib.hid hm2
          clear hm2 h0 hl hlv hy ho
          go_wp2
          go_roundg (xs.length - (i + 1))
          case measure => omega
          case rel =>
            have hmi := HM.out
            subst hmi
            refine ⟨m + 1 + 1, (cs.set m y).set (m + 1) hh, by omega, by omega, by go_num, by simpa using hl1, by simpa using hl2, OwnN.set (OwnN.set HO.out _ _) _ _, (HD.out.setCell HB.out.size _).setCell HB.out.size _, (HL.out.set _ hyb.1 hyb.2).set _ hhb.1 (by omega), ?_, ?_⟩
            · show _ = _
              have e0 := V_set (xs := cs.set m y) (i := m + 1) (by simp; omega) hh
              rw [List.getElem_set_ne (by omega), hzi] at e0
              have e1 := hsm.out y
              have e2 := HE.out
              have e3 := half_step (p := Bp m) (X := V (xs.take (m + 1))) (x := x) (h := hh) (l := x % 2) (by have := HH.out; omega)
              rw [HV.out, Bp_succ, e3, e0, e1, e2, HY.out, HLV.out, Bp_succ]
              have e4 : z + 2147483648 * (x % 2) - z = 2147483648 * (x % 2) := by omega
              rw [e4, Int.sub_zero]
            · intro j hj
              by_cases hj0 : j = m + 1
              · subst hj0
                exact .inl ⟨fun h => absurd h (by omega), by simpa using hhb.2⟩
              · by_cases hj1 : j = m
                · exact .inr (by omega)
                · rw [List.getElem_set_ne (by omega), List.getElem_set_ne (by omega)]
                  rcases HZ.out j (by simpa using hj) with h1 | h1
                  · exact .inl ⟨fun h => h1.1 (by omega), h1.2⟩
                  · exact .inr (by omega)
      · have hltz : ¬ (i : Int) < (xs.length : Int) := by omega
        have HE2 : Hid (V cs = S) := by
          show _ = _
          rw [HE.out, V_take_all (by omega)]; exact HS.out
        have hN := Lib.hid (r1_Norm (some ⟨w1.heap.size, 0, none⟩) xs.length cs wr ⟨OwnN.row HO.out, HL.out, hl1⟩ (by omega))
        rw [HE2.out, show cs.length = xs.length by omega] at hN
        clear HE HZ
        go_wp2_with fail
        refine hN.out.mono ?_
        rintro e w' ⟨A', c', rfl, g1, g2, g3⟩
        have G2 := Lib.hid g2
        have G3 := Lib.hid (HD.out.trans (g3.mono HD.out.size))
        clear g2 g3
        go_wp2
        go_ret2
        exact ⟨A', c', rfl, g1, G2.out, G3.out⟩
end Go.Proofs.Ytchdoignomidjaa.F

/- Plain law: a long division, digit by digit, of shifted numbers. No program in sight. -/
import Derived.Test.YtchdoignomidjaaKnuth
set_option linter.unusedVariables false
namespace Go.Proofs.Ytchdoignomidjaa.F

/-- the divisor, moved up so far that its highest limb has its highest bit -/
theorem shifted {ys cs : List Int} {m up : Nat} (hy : ys.length = m + 2) (hl : Lim ys) (hc : cs.length = m + 3) (hlc : Lim cs) (hV : V cs = V ys * 2 ^ up)
    (h1 : 2147483648 ≤ ys[m + 1]'(by omega) * 2 ^ up) (h2 : (ys[m + 1]'(by omega) + 1) * 2 ^ up ≤ 4294967296) :
    V (cs.take (m + 2)) = V ys * 2 ^ up ∧ 2147483648 ≤ (cs.take (m + 2))[m + 1]'(by simp; omega) := by
  have hp : (0 : Int) < 2 ^ up := Int.pow_pos (by decide)
  have e1 : V ys = V (ys.take (m + 1)) + Bp (m + 1) * ys[m + 1]'(by omega) := by
    have := V_take_succ (xs := ys) (i := m + 1) (by omega)
    rwa [V_take_all (by omega)] at this
  have l1 := V_lt (hl.take (m + 1))
  rw [List.length_take, Nat.min_eq_left (by omega)] at l1
  have l0 := V_nonneg (hl.take (m + 1))
  have b := Bp_pos (m + 1)
  generalize ys[m + 1]'(by omega) = t at *
  -- below the next power
  have u1 : V ys + 1 ≤ Bp (m + 1) * (t + 1) := by rw [Int.mul_add, Int.mul_one]; omega
  have u2 : (V ys + 1) * 2 ^ up ≤ (Bp (m + 1) * (t + 1)) * 2 ^ up := mul_mono u1 (by omega)
  have u3 : (Bp (m + 1) * (t + 1)) * 2 ^ up = Bp (m + 1) * ((t + 1) * 2 ^ up) := Int.mul_assoc ..
  have u4 : Bp (m + 1) * ((t + 1) * 2 ^ up) ≤ Bp (m + 1) * 4294967296 := mul_mono' h2 (by omega)
  have u5 : Bp (m + 2) = 4294967296 * Bp (m + 1) := Bp_succ (m + 1)
  have u6 : (V ys + 1) * 2 ^ up = V ys * 2 ^ up + 2 ^ up := by rw [Int.add_mul, Int.one_mul]
  have u7 : V ys * 2 ^ up < Bp (m + 2) := by omega
  -- so the last limb is idle
  have e2 := V_take_succ (xs := cs) (i := m + 2) (by omega)
  rw [V_take_all (by omega)] at e2
  have z0 := V_nonneg (hlc.take (m + 2))
  have z1 := (hlc.get (m + 2) (by omega)).1
  have z2 : cs[m + 2]'(by omega) = 0 := by
    apply Int.le_antisymm _ z1
    apply Int.le_of_not_gt
    intro hgt
    have : Bp (m + 2) * 1 ≤ Bp (m + 2) * cs[m + 2]'(by omega) := mul_mono' (by omega) (by have := Bp_pos (m + 2); omega)
    omega
  rw [z2, Int.mul_zero, Int.add_zero] at e2
  refine ⟨by rw [← e2, hV], ?_⟩
  rw [List.getElem_take]
  -- the highest limb
  have e3 := V_take_succ (xs := cs) (i := m + 1) (by omega)
  rw [show m + 1 + 1 = m + 2 from rfl, ← e2, hV] at e3
  have l2 := V_lt (hlc.take (m + 1))
  rw [List.length_take, Nat.min_eq_left (by omega)] at l2
  generalize cs[m + 1]'(by omega) = d at *
  apply Int.le_of_not_gt
  intro hgt
  have a1 : Bp (m + 1) * (d + 1) ≤ Bp (m + 1) * 2147483648 := mul_mono' (by omega) (by omega)
  have a2 : Bp (m + 1) * 2147483648 ≤ Bp (m + 1) * (t * 2 ^ up) := mul_mono' h1 (by omega)
  have a3 : Bp (m + 1) * (t * 2 ^ up) ≤ V ys * 2 ^ up := by
    rw [e1, Int.add_mul, Int.mul_assoc]
    have := Int.mul_nonneg l0 (Int.le_of_lt hp)
    omega
  have a4 : Bp (m + 1) * (d + 1) = Bp (m + 1) * d + Bp (m + 1) := by rw [Int.mul_add, Int.mul_one]
  omega

/-- the highest limbs of what is divided are below the divisor -/
theorem long_start {xs us : List Int} {m up L : Nat} {W y : Int} (hx : xs.length = L) (hl : Lim xs) (hu : us.length = L + 1) (hlu : Lim us) (hV : V us = V xs * 2 ^ up) (hW : W = y * 2 ^ up) (hy : Bp (m + 1) ≤ y) (hL : m + 2 ≤ L) :
    V (us.drop (L - m - 1)) < W := by
  have hp : (0 : Int) < 2 ^ up := Int.pow_pos (by decide)
  have h1 := V_lt hl
  rw [hx] at h1
  have e := V_split us (L - m - 1) (by omega)
  have h0 := V_nonneg (hlu.take (L - m - 1))
  have b := Bp_pos (L - m - 1)
  rw [hW]
  apply Int.lt_of_not_ge
  intro hge
  have a1 : Bp (L - m - 1) * (y * 2 ^ up) ≤ Bp (L - m - 1) * V (us.drop (L - m - 1)) := mul_mono' hge (by omega)
  have a2 : Bp (L - m - 1) * (Bp (m + 1) * 2 ^ up) ≤ Bp (L - m - 1) * (y * 2 ^ up) := mul_mono' (mul_mono hy (by omega)) (by omega)
  have a3 : Bp (L - m - 1) * (Bp (m + 1) * 2 ^ up) = Bp L * 2 ^ up := by rw [← Int.mul_assoc, ← Bp_add, show L - m - 1 + (m + 1) = L by omega]
  have a4 : (V xs + 1) * 2 ^ up ≤ Bp L * 2 ^ up := mul_mono (by omega) (by omega)
  rw [Int.add_mul, Int.one_mul] at a4
  omega

/-- before a digit: the part is its own value, and below 2^32 divisors -/
theorem long_part {us : List Int} {k m : Nat} {W : Int} (hl : Lim us) (hk : k + m + 3 ≤ us.length) (hlt : V (us.drop (k + 1)) < W) (hW : W ≤ Bp (m + 2)) :
    V ((us.drop k).take (m + 3)) = V (us.drop k) ∧ V (us.drop (k + m + 3)) = 0 ∧ V (us.drop k) < 4294967296 * W := by
  have h1 := hl.get k (by omega)
  have e1 := V_drop (xs := us) (i := k) (by omega)
  have e2 := V_split (us.drop k) (m + 3) (by simp; omega)
  rw [List.drop_drop, show k + (m + 3) = k + m + 3 by omega] at e2
  have h2 := V_nonneg (hl.drop (k + m + 3))
  have h3 := V_nonneg ((hl.drop k).take (m + 3))
  have e3 : Bp (m + 3) = 4294967296 * Bp (m + 2) := Bp_succ (m + 2)
  have b := Bp_pos (m + 2)
  have h4 : V (us.drop k) < 4294967296 * W := by omega
  have h5 : V (us.drop (k + m + 3)) = 0 := by
    apply Int.le_antisymm _ h2
    apply Int.le_of_not_gt
    intro hgt
    have : Bp (m + 3) * 1 ≤ Bp (m + 3) * V (us.drop (k + m + 3)) := mul_mono' (by omega) (by omega)
    omega
  rw [h5, Int.mul_zero, Int.add_zero] at e2
  exact ⟨e2.symm, h5, h4⟩

/-- behind a digit -/
theorem long_step {us fs qs : List Int} {k m : Nat} {W U : Int} (hk : k + m + 3 ≤ us.length) (hf : fs.length = m + 3) (hp : V ((us.drop k).take (m + 3)) = V (us.drop k)) (hz : V (us.drop (k + m + 3)) = 0) (hW : 0 < W)
    (hq : k < qs.length) (hF : V fs = V ((us.drop k).take (m + 3)) % W) (H : U = V (qs.drop (k + 1)) * Bp (k + 1) * W + V us) :
    U = V ((qs.set k (V ((us.drop k).take (m + 3)) / W)).drop k) * Bp k * W + V (us.take k ++ (fs ++ us.drop (k + m + 3))) ∧ V ((us.take k ++ (fs ++ us.drop (k + m + 3))).drop k) < W := by
  have e0 : (us.take k).length = k := by simp; omega
  have d1 : V ((us.take k ++ (fs ++ us.drop (k + m + 3))).drop k) = V fs := by
    rw [List.drop_append_of_le_length (by omega), List.drop_of_length_le (by omega), List.nil_append, V_append, hz]; omega
  have d2 : V (us.take k ++ (fs ++ us.drop (k + m + 3))) = V (us.take k) + Bp k * V fs := by
    rw [V_append, e0, V_append, hz]; simp
  refine ⟨?_, ?_⟩
  · rw [d2, V_drop (by simpa using hq), List.getElem_set_self, List.drop_set_of_lt (by omega), hF, H, V_split us k (by omega), Bp_succ, ← hp]
    have := Int.mul_ediv_add_emod (V ((us.drop k).take (m + 3))) W
    generalize V ((us.drop k).take (m + 3)) / W = q at *
    generalize V ((us.drop k).take (m + 3)) % W = r at *
    rw [← this]
    grind
  · rw [d1, hF]; exact Int.emod_lt_of_pos _ hW

/-- one limb of what is left, moved down -/
theorem down_step {i : Nat} {s h a b r R S : Int} (hs : s * h = 4294967296) (hr : r = a / s + (b % s) * h) (H : R * s = S + Bp i * (a % s)) : (R + Bp i * r) * s = S + Bp i * a + Bp (i + 1) * (b % s) := by
  rw [Bp_succ, hr]
  have e := Int.mul_ediv_add_emod a s
  generalize a / s = q at *
  generalize a % s = t at *
  generalize b % s = u at *
  rw [← hs, ← e]
  grind

theorem long_end {q r x y s : Int} (hs : 0 < s) (hy : 0 < y) (H : x * s = q * (y * s) + r) (h0 : 0 ≤ r) (h1 : r < y * s) : q = x / y ∧ r = (x % y) * s := by
  have e : x * s = x / y * (y * s) + (x % y) * s := by
    have := Int.mul_ediv_add_emod x y
    have e2 : x * s = (y * (x / y) + x % y) * s := by rw [this]
    rw [e2]; grind
  have m0 := Int.emod_nonneg x (show y ≠ 0 by omega)
  have m1 := Int.emod_lt_of_pos x hy
  have n0 : 0 ≤ (x % y) * s := Int.mul_nonneg m0 (by omega)
  have n1 : (x % y) * s < y * s := Int.mul_lt_mul_of_pos_right m1 hs
  have hys : 0 < y * s := Int.mul_pos hy hs
  have u1 := divs' (a := x * s) (b := y * s) (q := q) (by omega) (by omega)
  have u2 := divs' (a := x * s) (b := y * s) (q := x / y) (by omega) (by omega)
  have : q = x / y := by rw [← u1.1]; exact u2.1
  refine ⟨this, ?_⟩
  rw [this] at H
  omega
where
  divs' {a b q : Int} (h0 : 0 ≤ a - q * b) (h1 : a - q * b < b) : a / b = q ∧ a % b = a - q * b := by
    have hb : 0 < b := by omega
    have e : a = (a - q * b) + q * b := by omega
    constructor
    · rw [e, Int.add_mul_ediv_right _ _ (by omega), Int.ediv_eq_zero_of_lt h0 h1]; omega
    · rw [e, Int.add_mul_emod_self_right, Int.emod_eq_of_lt h0 h1]; omega
end Go.Proofs.Ytchdoignomidjaa.F

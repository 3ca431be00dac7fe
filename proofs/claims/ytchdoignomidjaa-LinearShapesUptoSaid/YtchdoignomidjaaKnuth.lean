/- Plain law: one digit of a long division, guessed by the two highest limbs of the divisor. No program in sight. -/
import Derived.Test.YtchdoignomidjaaNum
set_option linter.unusedVariables false
namespace Go.Proofs.Ytchdoignomidjaa.F

/-- the divisor and what is divided, seen by their highest limbs -/
structure Kn (u0 u1 u2 v1 v2 U W : Int) : Prop where
  bu0 : 0 ≤ u0 ∧ u0 < 4294967296
  bu1 : 0 ≤ u1 ∧ u1 < 4294967296
  bu2 : 0 ≤ u2 ∧ u2 < 4294967296
  bv1 : 2147483648 ≤ v1 ∧ v1 < 4294967296
  bv2 : 0 ≤ v2 ∧ v2 < 4294967296
  parts : ∃ M ul vl : Int, 0 < M ∧ 0 ≤ ul ∧ ul < M ∧ 0 ≤ vl ∧ vl < M ∧ U = ((u0 * 4294967296 + u1) * 4294967296 + u2) * M + ul ∧ W = (v1 * 4294967296 + v2) * M + vl
  below : U < 4294967296 * W

theorem mul_mono {a b c : Int} (h : a ≤ b) (hc : 0 ≤ c) : a * c ≤ b * c := Int.mul_le_mul_of_nonneg_right h hc
theorem mul_mono' {a b c : Int} (h : a ≤ b) (hc : 0 ≤ c) : c * a ≤ c * b := Int.mul_le_mul_of_nonneg_left h hc

/-- what holds of the guess in each round -/
def KnI (u0 u1 v1 U W g r : Int) : Prop := 0 ≤ g ∧ g ≤ 4294967297 ∧ 0 ≤ r ∧ r < 4294967296 ∧ g * v1 + r = u0 * 4294967296 + u1 ∧ U < (g + 1) * W
/-- what holds of it behind the loop -/
def KnQ (u0 u1 u2 v1 v2 U W g : Int) : Prop := 0 ≤ g ∧ g < 4294967296 ∧ U < (g + 1) * W ∧ g * (v1 * 4294967296 + v2) ≤ (u0 * 4294967296 + u1) * 4294967296 + u2

variable {u0 u1 u2 v1 v2 U W g r : Int}

theorem Kn.u0_le (k : Kn u0 u1 u2 v1 v2 U W) : u0 ≤ v1 := by
  obtain ⟨M, ul, vl, hM, h1, h2, h3, h4, hU, hW⟩ := k.parts
  have hb := k.below
  rw [hU, hW] at hb
  have a := k.bu1; have b := k.bu2; have c := k.bv2; have d := k.bv1
  apply Int.le_of_not_gt
  intro hgt
  have e1 : ((v1 + 1) * 4294967296 * 4294967296) * M ≤ ((u0 * 4294967296 + u1) * 4294967296 + u2) * M := mul_mono (by omega) (by omega)
  have e2 : (v1 * 4294967296 + v2 + 1) * M ≤ ((v1 + 1) * 4294967296) * M := mul_mono (by omega) (by omega)
  have e3 : (v1 * 4294967296 + v2 + 1) * M = (v1 * 4294967296 + v2) * M + M := by grind
  have e4 : ((v1 + 1) * 4294967296 * 4294967296) * M = 4294967296 * (((v1 + 1) * 4294967296) * M) := by grind
  omega

theorem Kn.init (k : Kn u0 u1 u2 v1 v2 U W) : KnI u0 u1 v1 U W ((u0 * 4294967296 + u1) / v1) ((u0 * 4294967296 + u1) % v1) := by
  have hle := k.u0_le
  obtain ⟨M, ul, vl, hM, h1, h2, h3, h4, hU, hW⟩ := k.parts
  have a := k.bu0; have b := k.bu1; have c := k.bu2; have d := k.bv1; have e := k.bv2
  have hv : 0 < v1 := by omega
  have t0 : 0 ≤ u0 * 4294967296 + u1 := by omega
  have g0 := Int.ediv_nonneg t0 (show 0 ≤ v1 by omega)
  have r0 := Int.emod_nonneg (u0 * 4294967296 + u1) (show v1 ≠ 0 by omega)
  have r1 := Int.emod_lt_of_pos (u0 * 4294967296 + u1) hv
  have ed := Int.mul_ediv_add_emod (u0 * 4294967296 + u1) v1
  rw [Int.mul_comm] at ed
  generalize (u0 * 4294967296 + u1) / v1 = g at *
  generalize (u0 * 4294967296 + u1) % v1 = r at *
  refine ⟨g0, ?_, r0, by omega, ed, ?_⟩
  · apply Int.le_of_not_gt
    intro hgt
    have e1 : 4294967298 * v1 ≤ g * v1 := mul_mono (by omega) (by omega)
    omega
  · rw [hU, hW]
    have e1 : (u0 * 4294967296 + u1 + 1) ≤ (g + 1) * v1 := by
      have : (g + 1) * v1 = g * v1 + v1 := by grind
      omega
    have e2 : (u0 * 4294967296 + u1 + 1) * (4294967296 * M) ≤ ((g + 1) * v1) * (4294967296 * M) := mul_mono e1 (by omega)
    have e3 : ((u0 * 4294967296 + u1) * 4294967296 + u2 + 1) * M ≤ ((u0 * 4294967296 + u1 + 1) * 4294967296) * M := mul_mono (by omega) (by omega)
    have e4 : 0 ≤ (g + 1) * (v2 * M + vl) := Int.mul_nonneg (by omega) (by have := Int.mul_nonneg e.1 (Int.le_of_lt hM); omega)
    have e5 : (g + 1) * ((v1 * 4294967296 + v2) * M + vl) = ((g + 1) * v1) * (4294967296 * M) + (g + 1) * (v2 * M + vl) := by grind
    have e6 : ((u0 * 4294967296 + u1) * 4294967296 + u2 + 1) * M = ((u0 * 4294967296 + u1) * 4294967296 + u2) * M + M := by grind
    have e7 : ((u0 * 4294967296 + u1 + 1) * 4294967296) * M = (u0 * 4294967296 + u1 + 1) * (4294967296 * M) := by grind
    omega

/-- a guess that is too great: one less holds still -/
theorem Kn.step (k : Kn u0 u1 u2 v1 v2 U W) (h : KnI u0 u1 v1 U W g r) (ht : 4294967296 ≤ g ∨ (g < 4294967296 ∧ r * 4294967296 + u2 < g * v2)) : 1 ≤ g ∧ U < g * W := by
  obtain ⟨M, ul, vl, hM, h1, h2, h3, h4, hU, hW⟩ := k.parts
  obtain ⟨g0, g1, r0, r1, he, hlt⟩ := h
  have hb := k.below
  have a := k.bu0; have b := k.bu1; have c := k.bu2; have d := k.bv1; have e := k.bv2
  have hW0 : 0 ≤ W := by rw [hW]; have := Int.mul_nonneg (show 0 ≤ v1 * 4294967296 + v2 by omega) (Int.le_of_lt hM); omega
  rcases ht with ht | ⟨ht, ht2⟩
  · refine ⟨by omega, ?_⟩
    have := mul_mono (c := W) ht hW0
    omega
  · have g1' : 1 ≤ g := by
      apply Int.le_of_not_gt
      intro hg
      have : g = 0 := by omega
      subst this
      omega
    refine ⟨g1', ?_⟩
    have e1 : g * (v1 * 4294967296 + v2) = (u0 * 4294967296 + u1 - r) * 4294967296 + g * v2 := by
      have : g * v1 = u0 * 4294967296 + u1 - r := by omega
      rw [← this]; grind
    have e2 : (u0 * 4294967296 + u1) * 4294967296 + u2 + 1 ≤ g * (v1 * 4294967296 + v2) := by rw [e1]; omega
    have e3 := mul_mono (c := M) e2 (by omega)
    have e4 : ((u0 * 4294967296 + u1) * 4294967296 + u2 + 1) * M = ((u0 * 4294967296 + u1) * 4294967296 + u2) * M + M := by grind
    have e5 : 0 ≤ g * vl := Int.mul_nonneg g0 h3
    have e6 : g * W = g * (v1 * 4294967296 + v2) * M + g * vl := by rw [hW]; grind
    omega

theorem KnI.next (k : Kn u0 u1 u2 v1 v2 U W) (h : KnI u0 u1 v1 U W g r) (hs : 1 ≤ g ∧ U < g * W) (hr : r + v1 < 4294967296) : KnI u0 u1 v1 U W (g - 1) (r + v1) := by
  obtain ⟨g0, g1, r0, r1, he, hlt⟩ := h
  have d := k.bv1
  refine ⟨by omega, by omega, by omega, hr, ?_, ?_⟩
  · have : (g - 1) * v1 = g * v1 - v1 := by grind
    omega
  · rw [show g - 1 + 1 = g by omega]; exact hs.2

theorem KnI.broke (k : Kn u0 u1 u2 v1 v2 U W) (h : KnI u0 u1 v1 U W g r) (hs : 1 ≤ g ∧ U < g * W) (hr : 4294967296 ≤ r + v1) : KnQ u0 u1 u2 v1 v2 U W (g - 1) := by
  have hle := k.u0_le
  obtain ⟨g0, g1, r0, r1, he, hlt⟩ := h
  have a := k.bu0; have b := k.bu1; have c := k.bu2; have d := k.bv1; have e := k.bv2
  have e1 : (g - 1) * v1 = g * v1 - v1 := by grind
  have hg : g - 1 < 4294967296 := by
    apply Int.lt_of_not_ge
    intro hge
    have := mul_mono (c := v1) hge (by omega)
    omega
  refine ⟨by omega, hg, by rw [show g - 1 + 1 = g by omega]; exact hs.2, ?_⟩
  have e2 : (g - 1) * (v1 * 4294967296 + v2) = ((g - 1) * v1) * 4294967296 + (g - 1) * v2 := by grind
  have e3 : (g - 1) * v2 ≤ 4294967295 * v2 := mul_mono (by omega) e.1
  omega

theorem KnI.stop (k : Kn u0 u1 u2 v1 v2 U W) (h : KnI u0 u1 v1 U W g r) (hg : g < 4294967296) (ht : g * v2 ≤ r * 4294967296 + u2) : KnQ u0 u1 u2 v1 v2 U W g := by
  obtain ⟨g0, g1, r0, r1, he, hlt⟩ := h
  refine ⟨g0, hg, hlt, ?_⟩
  have : g * (v1 * 4294967296 + v2) = (g * v1) * 4294967296 + g * v2 := by grind
  omega

/-- the guess is right, or one too great -/
theorem KnQ.near (k : Kn u0 u1 u2 v1 v2 U W) (h : KnQ u0 u1 u2 v1 v2 U W g) : g * W < U + W ∧ U < (g + 1) * W := by
  obtain ⟨M, ul, vl, hM, h1, h2, h3, h4, hU, hW⟩ := k.parts
  obtain ⟨g0, g1, hlt, hq⟩ := h
  have d := k.bv1; have e := k.bv2
  refine ⟨?_, hlt⟩
  have e1 : g * W = g * (v1 * 4294967296 + v2) * M + g * vl := by rw [hW]; grind
  have e2 := mul_mono (c := M) hq (by omega)
  have e3 : g * vl ≤ 4294967296 * vl := mul_mono (by omega) h3
  have e4 : 4294967296 * M ≤ (v1 * 4294967296 + v2) * M := mul_mono (by omega) (by omega)
  omega
end Go.Proofs.Ytchdoignomidjaa.F

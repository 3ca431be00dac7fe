/- How long rationals grow: |num| + den is submultiplicative under + and *. Plain Lean. -/
import Derived.Test.YtchdoignomidjaaForm
set_option linter.unusedVariables false
set_option linter.unusedSimpArgs false
namespace Go.Proofs.Ytchdoignomidjaa.F

def Sz (b : Nat) (q : Rat) : Prop := (q.num.natAbs : Int) + q.den < Bp b
theorem mkRat_le (n : Int) (d : Nat) (hd : d ≠ 0) : (mkRat n d).num.natAbs ≤ n.natAbs ∧ (mkRat n d).den ≤ d := by
  have h1 := made_q (s := decide (n < 0)) (x := n.natAbs) (y := d) (by omega) rfl
  have h2 : iv (decide (n < 0)) (n.natAbs : Int) = n := by
    unfold iv; split
    · rename_i h; have := of_decide_eq_true h; omega
    · rename_i h; have : ¬ n < 0 := by simpa using h
      omega
  rw [h2] at h1
  rw [h1.1, h1.2]
  have e : ∀ m : Nat, (iv (decide (n < 0)) (m : Int)).natAbs = m := fun m => by unfold iv; split <;> omega
  rw [e]
  exact ⟨Nat.div_le_self _ _, Nat.div_le_self _ _⟩
theorem Sz.len {b : Nat} {q : Rat} (h : Sz b q) : (dg q.num.natAbs).length ≤ b ∧ (dg q.den).length ≤ b := by
  unfold Sz at h
  exact ⟨dg_length_le (by omega), dg_length_le (by omega)⟩
theorem Sz.mono {a b : Nat} {q : Rat} (h : Sz a q) (hab : a ≤ b) : Sz b q := Int.lt_of_lt_of_le h (Bp_le hab)
theorem Sz.zero : Sz 1 0 := by show (0 : Int) + 1 < Bp 1; decide
theorem sz_prod {x y : Int} {a b : Nat} (hx : 0 ≤ x) (hy : 0 ≤ y) (h : x < Bp a) (k : y < Bp b) : x * y < Bp (a + b) := by
  rw [Bp_add]
  have h1 : x * y ≤ x * Bp b := Int.mul_le_mul_of_nonneg_left (by omega) hx
  have h2 : x * Bp b < Bp a * Bp b := Int.mul_lt_mul_of_pos_right h (Bp_pos b)
  omega
theorem Sz.mul {a b : Nat} {p q : Rat} (h : Sz a p) (k : Sz b q) : Sz (a + b) (p * q) := by
  have h1 := mkRat_le (p.num * q.num) (p.den * q.den) (Nat.mul_ne_zero p.den_nz q.den_nz)
  rw [← rat_mul, Int.natAbs_mul] at h1
  have h2 := sz_prod (by omega) (by omega) h k
  unfold Sz at *
  have h3 : ((p.num.natAbs : Int) + p.den) * ((q.num.natAbs : Int) + q.den) = (p.num.natAbs * q.num.natAbs : Nat) + (p.den * q.den : Nat) + ((p.num.natAbs * q.den : Nat) + (p.den * q.num.natAbs : Nat)) := by push_cast; grind
  omega
theorem Sz.add {a b : Nat} {p q : Rat} (h : Sz a p) (k : Sz b q) : Sz (a + b) (p + q) := by
  have h1 := mkRat_le (p.num * q.den + q.num * p.den) (p.den * q.den) (Nat.mul_ne_zero p.den_nz q.den_nz)
  rw [← rat_add] at h1
  have h4 : (p.num * q.den + q.num * p.den).natAbs ≤ p.num.natAbs * q.den + q.num.natAbs * p.den := by
    refine Nat.le_trans (Int.natAbs_add_le _ _) ?_
    rw [Int.natAbs_mul, Int.natAbs_mul]; exact Nat.le_refl _
  have h2 := sz_prod (by omega) (by omega) h k
  unfold Sz at *
  have h3 : ((p.num.natAbs : Int) + p.den) * ((q.num.natAbs : Int) + q.den) = (p.num.natAbs * q.den + q.num.natAbs * p.den : Nat) + (p.den * q.den : Nat) + (p.num.natAbs * q.num.natAbs : Nat) := by push_cast; grind
  omega
theorem Sz.rvs (s : Bool) {xs ys : List Int} (h : Lim xs) (k : Lim ys) : Sz (xs.length + ys.length + 1) (rv s xs ys) := by
  have h1 := rv_len s h k
  unfold Sz
  have h2 := Int.lt_of_lt_of_le (dg_lt (rv s xs ys).num.natAbs) (Bp_le h1.1)
  by_cases h0 : V ys = 0
  · have : rv s xs ys = 0 := by unfold rv; rw [h0]; exact Rat.mkRat_zero _
    rw [this]
    have h5 : Bp 1 ≤ Bp (xs.length + ys.length + 1) := Bp_le (by omega)
    have h6 : Bp 1 = 4294967296 := rfl
    show (0 : Int) + 1 < _
    omega
  · have h3 : ((rv s xs ys).den : Int) ≤ V ys := by
      have := (mkRat_le (iv s (V xs)) (V ys).toNat (by have := V_nonneg k; omega)).2
      show ((mkRat (iv s (V xs)) (V ys).toNat).den : Int) ≤ _
      have := V_nonneg k
      omega
    have h4 := V_lt k
    have h5 : Bp xs.length ≤ Bp (xs.length + ys.length) := Bp_le (by omega)
    have h6 : Bp ys.length ≤ Bp (xs.length + ys.length) := Bp_le (by omega)
    have h7 := Bp_succ (xs.length + ys.length)
    have h8 := Bp_pos (xs.length + ys.length)
    omega
end Go.Proofs.Ytchdoignomidjaa.F

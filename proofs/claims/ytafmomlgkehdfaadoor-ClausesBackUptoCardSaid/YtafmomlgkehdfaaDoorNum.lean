/- Plain law: lists of limbs base 2^32, their values and their normal forms. No program in sight. -/
set_option linter.unusedVariables false
namespace Go.Proofs.YtafmomlgkehdfaaDoor.F

/-- the value of a list of limbs, the lowest first -/
def V : List Int → Int
  | [] => 0
  | x :: xs => x + 4294967296 * V xs
/-- each is a limb -/
def Lim (xs : List Int) : Prop := ∀ x ∈ xs, 0 ≤ x ∧ x < 4294967296

theorem Lim.nil : Lim [] := fun x h => by cases h
theorem Lim.cons {x : Int} {xs : List Int} (h0 : 0 ≤ x) (h1 : x < 4294967296) (h : Lim xs) : Lim (x :: xs) := by
  intro y hy
  cases hy with
  | head => exact ⟨h0, h1⟩
  | tail _ hy => exact h y hy
theorem Lim.head {x : Int} {xs : List Int} (h : Lim (x :: xs)) : 0 ≤ x ∧ x < 4294967296 := h x List.mem_cons_self
theorem Lim.tail {x : Int} {xs : List Int} (h : Lim (x :: xs)) : Lim xs := fun y hy => h y (List.mem_cons_of_mem _ hy)
theorem Lim.append {xs ys : List Int} (h : Lim xs) (k : Lim ys) : Lim (xs ++ ys) := by
  intro y hy
  rcases List.mem_append.1 hy with hy | hy
  · exact h y hy
  · exact k y hy
theorem Lim.take {xs : List Int} (h : Lim xs) (n : Nat) : Lim (xs.take n) := fun y hy => h y (List.mem_of_mem_take hy)
theorem Lim.drop {xs : List Int} (h : Lim xs) (n : Nat) : Lim (xs.drop n) := fun y hy => h y (List.mem_of_mem_drop hy)
theorem Lim.get {xs : List Int} (h : Lim xs) (i : Nat) (hi : i < xs.length) : 0 ≤ xs[i] ∧ xs[i] < 4294967296 := h _ (List.getElem_mem hi)
theorem Lim.set {xs : List Int} (h : Lim xs) (i : Nat) {y : Int} (h0 : 0 ≤ y) (h1 : y < 4294967296) : Lim (xs.set i y) := by
  intro z hz
  rcases List.mem_or_eq_of_mem_set hz with hz | rfl
  · exact h z hz
  · exact ⟨h0, h1⟩
theorem Lim.zeros (n : Nat) : Lim (List.replicate n 0) := by
  intro x hx
  rw [(List.mem_replicate.1 hx).2]
  omega
theorem Lim.of_get {xs : List Int} (h : ∀ i (hi : i < xs.length), 0 ≤ xs[i] ∧ xs[i] < 4294967296) : Lim xs := by
  intro x hx
  obtain ⟨i, hi, rfl⟩ := List.getElem_of_mem hx
  exact h i hi

/-- 2^32 to the k -/
def Bp (k : Nat) : Int := 4294967296 ^ k
theorem Bp_zero : Bp 0 = 1 := rfl
theorem Bp_succ (k : Nat) : Bp (k + 1) = 4294967296 * Bp k := by unfold Bp; rw [Int.pow_succ]; omega
theorem Bp_pos (k : Nat) : 0 < Bp k := by
  induction k with
  | zero => decide
  | succ k ih => rw [Bp_succ]; omega
theorem Bp_add (i j : Nat) : Bp (i + j) = Bp i * Bp j := by unfold Bp; exact Int.pow_add ..
theorem Bp_le {i j : Nat} (h : i ≤ j) : Bp i ≤ Bp j := by
  obtain ⟨k, rfl⟩ := Nat.exists_eq_add_of_le h
  induction k with
  | zero => exact Int.le_refl _
  | succ k ih =>
    have := ih (by omega)
    have hp := Bp_pos (i + k)
    rw [show i + (k + 1) = (i + k) + 1 from rfl, Bp_succ]
    omega

theorem V_nonneg {xs : List Int} (h : Lim xs) : 0 ≤ V xs := by
  induction xs with
  | nil => exact Int.le_refl _
  | cons x xs ih => have := ih h.tail; have := h.head; simp only [V]; omega
theorem V_lt {xs : List Int} (h : Lim xs) : V xs < Bp xs.length := by
  induction xs with
  | nil => decide
  | cons x xs ih => have := ih h.tail; have := h.head; simp only [V, List.length_cons, Bp_succ]; omega
theorem V_append (xs ys : List Int) : V (xs ++ ys) = V xs + Bp xs.length * V ys := by
  induction xs with
  | nil => simp [V, Bp_zero]
  | cons x xs ih => simp only [List.cons_append, V, ih, List.length_cons, Bp_succ]; grind
theorem V_zeros (n : Nat) : V (List.replicate n 0) = 0 := by
  induction n with
  | zero => rfl
  | succ n ih => simp only [List.replicate_succ, V, ih]; omega
theorem V_snoc (xs : List Int) (y : Int) : V (xs ++ [y]) = V xs + Bp xs.length * y := by rw [V_append]; simp [V]
theorem V_take_succ {xs : List Int} {i : Nat} (hi : i < xs.length) : V (xs.take (i + 1)) = V (xs.take i) + Bp i * xs[i] := by
  rw [List.take_succ_eq_append_getElem hi, V_snoc, List.length_take, Nat.min_eq_left (by omega)]
theorem V_split (xs : List Int) (i : Nat) (hi : i ≤ xs.length) : V xs = V (xs.take i) + Bp i * V (xs.drop i) := by
  have := V_append (xs.take i) (xs.drop i)
  rw [List.take_append_drop, List.length_take, Nat.min_eq_left hi] at this
  exact this
theorem V_drop {xs : List Int} {i : Nat} (hi : i < xs.length) : V (xs.drop i) = xs[i] + 4294967296 * V (xs.drop (i + 1)) := by
  rw [List.drop_eq_getElem_cons hi]; rfl
theorem V_set {xs : List Int} {i : Nat} (hi : i < xs.length) (y : Int) : V (xs.set i y) = V xs + Bp i * (y - xs[i]) := by
  induction xs generalizing i with
  | nil => simp at hi
  | cons x xs ih =>
    cases i with
    | zero => simp [V, Bp_zero]; omega
    | succ i => simp only [List.set_cons_succ, V, List.getElem_cons_succ, ih (by simpa using hi), Bp_succ]; grind
theorem V_pos_of_ne {xs : List Int} (h : Lim xs) {i : Nat} (hi : i < xs.length) (hne : xs[i] ≠ 0) : Bp i ≤ V xs := by
  have h0 := (h.get i hi).1
  rw [V_split xs i (by omega), V_drop hi]
  have h1 := V_nonneg (h.take i)
  have h2 := V_nonneg (h.drop (i + 1))
  have h3 : 1 ≤ xs[i] + 4294967296 * V (xs.drop (i + 1)) := by omega
  have h4 : Bp i * 1 ≤ Bp i * (xs[i] + 4294967296 * V (xs.drop (i + 1))) := Int.mul_le_mul_of_nonneg_left h3 (Int.le_of_lt (Bp_pos i))
  omega
theorem V_zero_tail {xs : List Int} {n : Nat} (hn : n ≤ xs.length) (h : ∀ i (hi : i < xs.length), n ≤ i → xs[i] = 0) : V xs = V (xs.take n) := by
  rw [V_split xs n hn]
  have : xs.drop n = List.replicate (xs.length - n) 0 := by
    refine List.ext_getElem (by simp) fun i h1 h2 => ?_
    rw [List.getElem_drop, List.getElem_replicate]
    exact h _ _ (by omega)
  rw [this, V_zeros]; omega

/-- the limbs of a number, none of them idle -/
def dg (n : Nat) : List Int := if h : n = 0 then [] else ((n % 4294967296 : Nat) : Int) :: dg (n / 4294967296)
termination_by n
decreasing_by omega

theorem dg_zero : dg 0 = [] := by rw [dg]; simp
theorem dg_pos {n : Nat} (h : n ≠ 0) : dg n = ((n % 4294967296 : Nat) : Int) :: dg (n / 4294967296) := by rw [dg, dif_neg h]
theorem V_dg (n : Nat) : V (dg n) = n := by
  induction n using Nat.strongRecOn with
  | _ n ih =>
    by_cases h : n = 0
    · subst h; rw [dg_zero]; rfl
    · rw [dg_pos h, V, ih _ (by omega)]; omega
theorem Lim_dg (n : Nat) : Lim (dg n) := by
  induction n using Nat.strongRecOn with
  | _ n ih =>
    by_cases h : n = 0
    · subst h; rw [dg_zero]; exact Lim.nil
    · rw [dg_pos h]; exact Lim.cons (by omega) (by omega) (ih _ (by omega))
theorem dg_cons {x : Int} {n : Nat} (h0 : 0 ≤ x) (h1 : x < 4294967296) (h : x ≠ 0 ∨ n ≠ 0) : dg (x.toNat + 4294967296 * n) = x :: dg n := by
  rw [dg_pos (by omega), show (x.toNat + 4294967296 * n) / 4294967296 = n from by omega, show (((x.toNat + 4294967296 * n) % 4294967296 : Nat) : Int) = x from by omega]
/-- no limb at the end is 0 -/
def Nrm (xs : List Int) : Prop := ∀ h : xs ≠ [], xs.getLast h ≠ 0
theorem dg_V {xs : List Int} (h : Lim xs) (hn : Nrm xs) : dg (V xs).toNat = xs := by
  induction xs with
  | nil => exact dg_zero
  | cons x xs ih =>
    have hx := h.head
    have hv := V_nonneg h.tail
    have hn' : Nrm xs := fun hne => by
      have := hn (by simp)
      rwa [List.getLast_cons hne] at this
    have e := ih h.tail hn'
    have : x ≠ 0 ∨ (V xs).toNat ≠ 0 := by
      by_cases hne : xs = []
      · subst hne; left; exact hn (by simp)
      · right
        intro hz
        rw [hz, dg_zero] at e
        exact hne e.symm
    rw [V, show (x + 4294967296 * V xs).toNat = x.toNat + 4294967296 * (V xs).toNat from by omega, dg_cons hx.1 hx.2 this, e]
theorem Nrm_dg (n : Nat) : Nrm (dg n) := by
  induction n using Nat.strongRecOn with
  | _ n ih =>
    by_cases h : n = 0
    · subst h; rw [dg_zero]; intro h; exact absurd rfl h
    · rw [dg_pos h]
      intro hne
      by_cases h2 : n / 4294967296 = 0
      · simp only [h2, dg_zero, List.getLast_singleton]; omega
      · have hd : dg (n / 4294967296) ≠ [] := by rw [dg_pos h2]; simp
        rw [List.getLast_cons hd]
        exact ih _ (by omega) hd
theorem dg_length_le {n k : Nat} (h : (n : Int) < Bp k) : (dg n).length ≤ k := by
  induction k generalizing n with
  | zero => rw [Bp_zero] at h; have : n = 0 := by omega
            subst this; rw [dg_zero]; simp
  | succ k ih =>
    by_cases h0 : n = 0
    · subst h0; rw [dg_zero]; simp
    · rw [dg_pos h0, List.length_cons]
      rw [Bp_succ] at h
      have := ih (n := n / 4294967296) (by omega)
      omega
theorem dg_eq_nil {n : Nat} : dg n = [] ↔ n = 0 := by
  constructor
  · intro h
    have := V_dg n
    rw [h] at this
    simp [V] at this
    omega
  · rintro rfl; exact dg_zero
theorem dg_inj {m n : Nat} (h : dg m = dg n) : m = n := by
  have h1 := V_dg m
  rw [h, V_dg] at h1
  omega
theorem dg_len_of_V {xs : List Int} (h : Lim xs) : (dg (V xs).toNat).length ≤ xs.length :=
  dg_length_le (by have := V_lt h; have := V_nonneg h; omega)
theorem dg_lt (n : Nat) : (n : Int) < Bp (dg n).length := by rw [← V_dg n]; rw [V_dg]; have := V_lt (Lim_dg n); rwa [V_dg] at this
theorem dg_ge {n : Nat} (h : 0 < n) : Bp ((dg n).length - 1) ≤ (n : Int) := by
  have hne : dg n ≠ [] := by rw [Ne, dg_eq_nil]; omega
  have hl : 0 < (dg n).length := List.length_pos_iff.2 hne
  have := V_pos_of_ne (Lim_dg n) (i := (dg n).length - 1) (by omega) (by
    have := Nrm_dg n hne
    rwa [List.getLast_eq_getElem] at this)
  rwa [V_dg] at this
theorem dg_length_mono {m n : Nat} (h : m ≤ n) : (dg m).length ≤ (dg n).length :=
  dg_length_le (by have := dg_lt n; omega)
/-- what is left of a list without the noughts at its end -/
theorem take_dg {xs : List Int} (h : Lim xs) {n : Nat} (hn : n ≤ xs.length) (hz : ∀ i (hi : i < xs.length), n ≤ i → xs[i] = 0) (hl : ∀ (h0 : 0 < n), xs[n - 1]'(by omega) ≠ 0) :
    xs.take n = dg (V xs).toNat := by
  rw [V_zero_tail hn hz]
  refine (dg_V (h.take n) fun hne => ?_).symm
  have h0 : 0 < n := by
    rcases Nat.eq_zero_or_pos n with h0 | h0
    · subst h0; simp at hne
    · exact h0
  rw [List.getLast_eq_getElem, List.getElem_take]
  simpa [Nat.min_eq_left hn] using hl h0

theorem V_take_all {xs : List Int} {k : Nat} (h : xs.length ≤ k) : V (xs.take k) = V xs := by rw [List.take_of_length_le h]
theorem V_take_getD (xs : List Int) (k : Nat) : V (xs.take (k + 1)) = V (xs.take k) + Bp k * xs.getD k 0 := by
  by_cases h : k < xs.length
  · rw [V_take_succ h]; simp [List.getD, List.getElem?_eq_getElem h]
  · rw [V_take_all (by omega), V_take_all (by omega)]; simp [List.getD, List.getElem?_eq_none (show xs.length ≤ k by omega)]
theorem Lim.getD {xs : List Int} (h : Lim xs) (k : Nat) : 0 ≤ xs.getD k 0 ∧ xs.getD k 0 < 4294967296 := by
  by_cases hk : k < xs.length
  · simpa [List.getD, List.getElem?_eq_getElem hk] using h.get k hk
  · simp [List.getD, List.getElem?_eq_none (show xs.length ≤ k by omega)]
theorem V_take_set_succ {xs : List Int} {k : Nat} (hk : k < xs.length) (y : Int) : V ((xs.set k y).take (k + 1)) = V (xs.take k) + Bp k * y := by
  rw [V_take_succ (by simpa using hk), List.getElem_set_self, List.take_set_of_le (Nat.le_refl _)]
/-- one limb of a sum -/
theorem add_step {k : Nat} {x y c d e A X Y : Int} (h : x + y + c = d + 4294967296 * e) (H : A + Bp k * c = X + Y) : A + Bp k * d + Bp (k + 1) * e = X + Bp k * x + (Y + Bp k * y) := by
  rw [Bp_succ]
  have : Bp k * (x + y + c) = Bp k * (d + 4294967296 * e) := by rw [h]
  grind
/-- one limb of a difference -/
theorem sub_step {k : Nat} {x y c d e A X Y : Int} (h : x - y - c = d - 4294967296 * e) (H : A - Bp k * c = X - Y) : A + Bp k * d - Bp (k + 1) * e = X + Bp k * x - (Y + Bp k * y) := by
  rw [Bp_succ]
  have : Bp k * (x - y - c) = Bp k * (d - 4294967296 * e) := by rw [h]
  grind
end Go.Proofs.YtafmomlgkehdfaaDoor.F

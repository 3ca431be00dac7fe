/- Plain law: lists of limbs base 2^32, their values and their normal forms. No program in sight. -/
import Derived.WalkKit
import Derived.KernelRfl
import Derived.Lib.Hide
import Derived.Deep.LoopGhost
import Derived.Deep.QuietTactic
import Derived.BigQuiet
import Derived.Deep.Draws
import Derived.WideLaws
import Derived.Laws.CopyOwn
import Derived.Deep.CutBlock
import Derived.Deep.DeepCutAuto
import Derived.Shelf.Abstract
import Derived.Lib.MinMax
import GoSem.ClaimChange
import Derived.ChangeShapes
set_option linter.unusedVariables false
namespace Go.Proofs.YtidgpkccjcddgaaGreatDoor.F
def V : List Int → Int
 | [] => 0
 | x :: xs => x + 4294967296 * V xs
def Lim (xs : List Int) : Prop := ∀ x ∈ xs, 0 ≤ x ∧ x < 4294967296
theorem Lim.nil : Lim [] := fun x h => by cases h
theorem Lim.cons {x : Int} {xs : List Int} (h0 : 0 ≤ x) (h1 : x < 4294967296) (h : Lim xs) : Lim (x :: xs) := by
 intro y hy
 cases hy with
 | head => exact ⟨h0, h1⟩
 | tail _ hy => exact h y hy
theorem Lim.head {x : Int} {xs : List Int} (h : Lim (x :: xs)) : 0 ≤ x ∧ x < 4294967296 := h x List.mem_cons_self
theorem Lim.tail {x : Int} {xs : List Int} (h : Lim (x :: xs)) : Lim xs := fun y hy => h y (List.mem_cons_of_mem _ hy)
theorem Lim.append {xs ys : List Int} (h : Lim xs) (k : Lim ys) : Lim (xs ++ ys) := by
 intro y hy
 rcases List.mem_append.1 hy with hy | hy
 · exact h y hy
 · exact k y hy
theorem Lim.take {xs : List Int} (h : Lim xs) (n : Nat) : Lim (xs.take n) := fun y hy => h y (List.mem_of_mem_take hy)
theorem Lim.drop {xs : List Int} (h : Lim xs) (n : Nat) : Lim (xs.drop n) := fun y hy => h y (List.mem_of_mem_drop hy)
theorem Lim.get {xs : List Int} (h : Lim xs) (i : Nat) (hi : i < xs.length) : 0 ≤ xs[i] ∧ xs[i] < 4294967296 := h _ (List.getElem_mem hi)
theorem Lim.set {xs : List Int} (h : Lim xs) (i : Nat) {y : Int} (h0 : 0 ≤ y) (h1 : y < 4294967296) : Lim (xs.set i y) := by
 intro z hz
 rcases List.mem_or_eq_of_mem_set hz with hz | rfl
 · exact h z hz
 · exact ⟨h0, h1⟩
theorem Lim.zeros (n : Nat) : Lim (List.replicate n 0) := by
 intro x hx
 rw [(List.mem_replicate.1 hx).2]
 omega
def Bp (k : Nat) : Int := 4294967296 ^ k
theorem Bp_zero : Bp 0 = 1 := rfl
theorem Bp_succ (k : Nat) : Bp (k + 1) = 4294967296 * Bp k := by unfold Bp; rw [Int.pow_succ]; omega
theorem Bp_pos (k : Nat) : 0 < Bp k := by
 induction k with
 | zero => decide
 | succ k ih => rw [Bp_succ]; omega
theorem Bp_add (i j : Nat) : Bp (i + j) = Bp i * Bp j := by unfold Bp; exact Int.pow_add ..
theorem Bp_le {i j : Nat} (h : i ≤ j) : Bp i ≤ Bp j := by
 obtain ⟨k, rfl⟩ := Nat.exists_eq_add_of_le h
 induction k with
 | zero => exact Int.le_refl _
 | succ k ih =>
  have := ih (by omega)
  have hp := Bp_pos (i + k)
  rw [show i + (k + 1) = (i + k) + 1 from rfl, Bp_succ]
  omega
theorem V_nonneg {xs : List Int} (h : Lim xs) : 0 ≤ V xs := by
 induction xs with
 | nil => exact Int.le_refl _
 | cons x xs ih => have := ih h.tail; have := h.head; simp only [V]; omega
theorem V_lt {xs : List Int} (h : Lim xs) : V xs < Bp xs.length := by
 induction xs with
 | nil => decide
 | cons x xs ih => have := ih h.tail; have := h.head; simp only [V, List.length_cons, Bp_succ]; omega
theorem V_append (xs ys : List Int) : V (xs ++ ys) = V xs + Bp xs.length * V ys := by
 induction xs with
 | nil => simp [V, Bp_zero]
 | cons x xs ih => simp only [List.cons_append, V, ih, List.length_cons, Bp_succ]; grind
theorem V_zeros (n : Nat) : V (List.replicate n 0) = 0 := by
 induction n with
 | zero => rfl
 | succ n ih => simp only [List.replicate_succ, V, ih]; omega
theorem V_snoc (xs : List Int) (y : Int) : V (xs ++ [y]) = V xs + Bp xs.length * y := by rw [V_append]; simp [V]
theorem V_take_succ {xs : List Int} {i : Nat} (hi : i < xs.length) : V (xs.take (i + 1)) = V (xs.take i) + Bp i * xs[i] := by
 rw [List.take_succ_eq_append_getElem hi, V_snoc, List.length_take, Nat.min_eq_left (by omega)]
theorem V_split (xs : List Int) (i : Nat) (hi : i ≤ xs.length) : V xs = V (xs.take i) + Bp i * V (xs.drop i) := by
 have := V_append (xs.take i) (xs.drop i)
 rw [List.take_append_drop, List.length_take, Nat.min_eq_left hi] at this
 exact this
theorem V_drop {xs : List Int} {i : Nat} (hi : i < xs.length) : V (xs.drop i) = xs[i] + 4294967296 * V (xs.drop (i + 1)) := by
 rw [List.drop_eq_getElem_cons hi]; rfl
theorem V_set {xs : List Int} {i : Nat} (hi : i < xs.length) (y : Int) : V (xs.set i y) = V xs + Bp i * (y - xs[i]) := by
 induction xs generalizing i with
 | nil => simp at hi
 | cons x xs ih =>
  cases i with
  | zero => simp [V, Bp_zero]; omega
  | succ i => simp only [List.set_cons_succ, V, List.getElem_cons_succ, ih (by simpa using hi), Bp_succ]; grind
theorem V_pos_of_ne {xs : List Int} (h : Lim xs) {i : Nat} (hi : i < xs.length) (hne : xs[i] ≠ 0) : Bp i ≤ V xs := by
 have h0 := (h.get i hi).1
 rw [V_split xs i (by omega), V_drop hi]
 have h1 := V_nonneg (h.take i)
 have h2 := V_nonneg (h.drop (i + 1))
 have h3 : 1 ≤ xs[i] + 4294967296 * V (xs.drop (i + 1)) := by omega
 have h4 : Bp i * 1 ≤ Bp i * (xs[i] + 4294967296 * V (xs.drop (i + 1))) := Int.mul_le_mul_of_nonneg_left h3 (Int.le_of_lt (Bp_pos i))
 omega
theorem V_zero_tail {xs : List Int} {n : Nat} (hn : n ≤ xs.length) (h : ∀ i (hi : i < xs.length), n ≤ i → xs[i] = 0) : V xs = V (xs.take n) := by
 rw [V_split xs n hn]
 have : xs.drop n = List.replicate (xs.length - n) 0 := by
  refine List.ext_getElem (by simp) fun i h1 h2 => ?_
  rw [List.getElem_drop, List.getElem_replicate]
  exact h _ _ (by omega)
 rw [this, V_zeros]; omega
def dg (n : Nat) : List Int := if h : n = 0 then [] else ((n % 4294967296 : Nat) : Int) :: dg (n / 4294967296)
termination_by n
decreasing_by omega
theorem dg_zero : dg 0 = [] := by rw [dg]; simp
theorem dg_pos {n : Nat} (h : n ≠ 0) : dg n = ((n % 4294967296 : Nat) : Int) :: dg (n / 4294967296) := by rw [dg, dif_neg h]
theorem V_dg (n : Nat) : V (dg n) = n := by
 induction n using Nat.strongRecOn with
 | _ n ih =>
  by_cases h : n = 0
  · subst h; rw [dg_zero]; rfl
  · rw [dg_pos h, V, ih _ (by omega)]; omega
theorem Lim_dg (n : Nat) : Lim (dg n) := by
 induction n using Nat.strongRecOn with
 | _ n ih =>
  by_cases h : n = 0
  · subst h; rw [dg_zero]; exact Lim.nil
  · rw [dg_pos h]; exact Lim.cons (by omega) (by omega) (ih _ (by omega))
theorem dg_cons {x : Int} {n : Nat} (h0 : 0 ≤ x) (h1 : x < 4294967296) (h : x ≠ 0 ∨ n ≠ 0) : dg (x.toNat + 4294967296 * n) = x :: dg n := by
 rw [dg_pos (by omega), show (x.toNat + 4294967296 * n) / 4294967296 = n from by omega, show (((x.toNat + 4294967296 * n) % 4294967296 : Nat) : Int) = x from by omega]
def Nrm (xs : List Int) : Prop := ∀ h : xs ≠ [], xs.getLast h ≠ 0
theorem dg_V {xs : List Int} (h : Lim xs) (hn : Nrm xs) : dg (V xs).toNat = xs := by
 induction xs with
 | nil => exact dg_zero
 | cons x xs ih =>
  have hx := h.head
  have hv := V_nonneg h.tail
  have hn' : Nrm xs := fun hne => by
   have := hn (by simp)
   rwa [List.getLast_cons hne] at this
  have e := ih h.tail hn'
  have : x ≠ 0 ∨ (V xs).toNat ≠ 0 := by
   by_cases hne : xs = []
   · subst hne; left; exact hn (by simp)
   · right
     intro hz
     rw [hz, dg_zero] at e
     exact hne e.symm
  rw [V, show (x + 4294967296 * V xs).toNat = x.toNat + 4294967296 * (V xs).toNat from by omega, dg_cons hx.1 hx.2 this, e]
theorem Nrm_dg (n : Nat) : Nrm (dg n) := by
 induction n using Nat.strongRecOn with
 | _ n ih =>
  by_cases h : n = 0
  · subst h; rw [dg_zero]; intro h; exact absurd rfl h
  · rw [dg_pos h]
    intro hne
    by_cases h2 : n / 4294967296 = 0
    · simp only [h2, dg_zero, List.getLast_singleton]; omega
    · have hd : dg (n / 4294967296) ≠ [] := by rw [dg_pos h2]; simp
      rw [List.getLast_cons hd]
      exact ih _ (by omega) hd
theorem dg_length_le {n k : Nat} (h : (n : Int) < Bp k) : (dg n).length ≤ k := by
 induction k generalizing n with
 | zero => rw [Bp_zero] at h; have : n = 0 := by omega
           subst this; rw [dg_zero]; simp
 | succ k ih =>
  by_cases h0 : n = 0
  · subst h0; rw [dg_zero]; simp
  · rw [dg_pos h0, List.length_cons]
    rw [Bp_succ] at h
    have := ih (n := n / 4294967296) (by omega)
    omega
theorem dg_eq_nil {n : Nat} : dg n = [] ↔ n = 0 := by
 constructor
 · intro h
   have := V_dg n
   rw [h] at this
   simp [V] at this
   omega
 · rintro rfl; exact dg_zero
theorem dg_len_of_V {xs : List Int} (h : Lim xs) : (dg (V xs).toNat).length ≤ xs.length :=
 dg_length_le (by have := V_lt h; have := V_nonneg h; omega)
theorem dg_lt (n : Nat) : (n : Int) < Bp (dg n).length := by rw [← V_dg n]; rw [V_dg]; have := V_lt (Lim_dg n); rwa [V_dg] at this
theorem dg_ge {n : Nat} (h : 0 < n) : Bp ((dg n).length - 1) ≤ (n : Int) := by
 have hne : dg n ≠ [] := by rw [Ne, dg_eq_nil]; omega
 have hl : 0 < (dg n).length := List.length_pos_iff.2 hne
 have := V_pos_of_ne (Lim_dg n) (i := (dg n).length - 1) (by omega) (by
  have := Nrm_dg n hne
  rwa [List.getLast_eq_getElem] at this)
 rwa [V_dg] at this
theorem dg_length_mono {m n : Nat} (h : m ≤ n) : (dg m).length ≤ (dg n).length :=
 dg_length_le (by have := dg_lt n; omega)
theorem take_dg {xs : List Int} (h : Lim xs) {n : Nat} (hn : n ≤ xs.length) (hz : ∀ i (hi : i < xs.length), n ≤ i → xs[i] = 0) (hl : ∀ (h0 : 0 < n), xs[n - 1]'(by omega) ≠ 0) :
 xs.take n = dg (V xs).toNat := by
 rw [V_zero_tail hn hz]
 refine (dg_V (h.take n) fun hne => ?_).symm
 have h0 : 0 < n := by
  rcases Nat.eq_zero_or_pos n with h0 | h0
  · subst h0; simp at hne
  · exact h0
 rw [List.getLast_eq_getElem, List.getElem_take]
 simpa [Nat.min_eq_left hn] using hl h0
theorem V_take_all {xs : List Int} {k : Nat} (h : xs.length ≤ k) : V (xs.take k) = V xs := by rw [List.take_of_length_le h]
theorem V_take_getD (xs : List Int) (k : Nat) : V (xs.take (k + 1)) = V (xs.take k) + Bp k * xs.getD k 0 := by
 by_cases h : k < xs.length
 · rw [V_take_succ h]; simp [List.getD, List.getElem?_eq_getElem h]
 · rw [V_take_all (by omega), V_take_all (by omega)]; simp [List.getD, List.getElem?_eq_none (show xs.length ≤ k by omega)]
theorem Lim.getD {xs : List Int} (h : Lim xs) (k : Nat) : 0 ≤ xs.getD k 0 ∧ xs.getD k 0 < 4294967296 := by
 by_cases hk : k < xs.length
 · simpa [List.getD, List.getElem?_eq_getElem hk] using h.get k hk
 · simp [List.getD, List.getElem?_eq_none (show xs.length ≤ k by omega)]
theorem V_take_set_succ {xs : List Int} {k : Nat} (hk : k < xs.length) (y : Int) : V ((xs.set k y).take (k + 1)) = V (xs.take k) + Bp k * y := by
 rw [V_take_succ (by simpa using hk), List.getElem_set_self, List.take_set_of_le (Nat.le_refl _)]
theorem add_step {k : Nat} {x y c d e A X Y : Int} (h : x + y + c = d + 4294967296 * e) (H : A + Bp k * c = X + Y) : A + Bp k * d + Bp (k + 1) * e = X + Bp k * x + (Y + Bp k * y) := by
 rw [Bp_succ]
 have : Bp k * (x + y + c) = Bp k * (d + 4294967296 * e) := by rw [h]
 grind
theorem sub_step {k : Nat} {x y c d e A X Y : Int} (h : x - y - c = d - 4294967296 * e) (H : A - Bp k * c = X - Y) : A + Bp k * d - Bp (k + 1) * e = X + Bp k * x - (Y + Bp k * y) := by
 rw [Bp_succ]
 have : Bp k * (x - y - c) = Bp k * (d - 4294967296 * e) := by rw [h]
 grind
open Go.RowKit
structure Knd (α : Type) where
 sz : Nat
 C : World → α → List Value → Prop
 len : ∀ {w : World} {x : α} {cs : List Value}, C w x cs → cs.length = sz
 below : ∀ {w w1 : World} {x : α} {cs : List Value}, Below w.heap.size w w1 → C w x cs → C w1 x cs
theorem cell_below {w w1 : World} (hb : Below w.heap.size w w1) {a : Addr} {v : Value} (hc : w.cell? a = some v) : w1.cell? a = some v :=
 (hb.cell (World.block_lt_of_cell? w a hc)).trans hc
theorem below_drewN {B : Nat} {a w : World} (h : Below B a w) (n : Nat) : Below B a (w.drewN n) := ⟨h.os, h.tape, h.output, h.size, h.block⟩
namespace Knd
def Row {α : Type} (d : Knd α) (w : World) (A : Option Addr) (xs : List α) : Prop :=
 ∀ (i : Nat) (h : i < xs.length), ∃ ad cs, A = some ad ∧ d.C w xs[i] cs ∧ ∀ (j : Nat) u, cs[j]? = some u → w.cell? (ad.add (i * d.sz + j)) = some u
theorem Row.below {α : Type} {d : Knd α} {w w1 : World} {A : Option Addr} {xs : List α} (hb : Below w.heap.size w w1) (h : d.Row w A xs) : d.Row w1 A xs := by
 intro i hi
 obtain ⟨ad, cs, e, hC, hc⟩ := h i hi
 exact ⟨ad, cs, e, d.below hb hC, fun j u hu => cell_below hb (hc j u hu)⟩
def int (k : IntKind) : Knd Int := ⟨1, fun _ x cs => cs = [.int k x], fun h => by rw [h]; rfl, fun _ h => h⟩
def bool : Knd Bool := ⟨1, fun _ x cs => cs = [.bool x], fun h => by rw [h]; rfl, fun _ h => h⟩
def slice {α : Type} (d : Knd α) : Knd (List α) :=
 ⟨1, fun w xs cs => ∃ A c, cs = [.slice A xs.length c] ∧ xs.length ≤ c ∧ xs.length ≤ 9223372036854775807 ∧ d.Row w A xs,
  fun ⟨_, _, h, _⟩ => by rw [h]; rfl, fun hb ⟨A, c, h1, h2, h3, h4⟩ => ⟨A, c, h1, h2, h3, h4.below hb⟩⟩
theorem row_nil {α : Type} (d : Knd α) (w : World) (A : Option Addr) : d.Row w A ([] : List α) := fun i h => by simp at h
theorem at_int {k : IntKind} {w : World} {A : Option Addr} {xs : List Int} (h : (int k).Row w A xs) (i : Nat) (hi : i < xs.length) : ∃ ad, A = some ad ∧ w.cell? (ad.add i) = some (.int k xs[i]) := by
 obtain ⟨ad, cs, e, hC, hc⟩ := h i hi
 have hC' : cs = [.int k xs[i]] := hC
 subst hC'
 refine ⟨ad, e, ?_⟩
 have := hc 0 _ rfl
 rwa [show i * (int k).sz + 0 = i from by show i * 1 + 0 = i; omega] at this
def string : Knd ByteArray := ⟨1, fun _ x cs => cs = [.string x], fun h => by rw [h]; rfl, fun _ h => h⟩
def pair {α β : Type} (d : Knd α) (e : Knd β) : Knd (α × β) :=
 ⟨d.sz + e.sz, fun w x cs => ∃ c1 c2, cs = c1 ++ c2 ∧ d.C w x.1 c1 ∧ e.C w x.2 c2,
  fun ⟨c1, c2, h, h1, h2⟩ => by rw [h, List.length_append, d.len h1, e.len h2], fun hb ⟨c1, c2, h, h1, h2⟩ => ⟨c1, c2, h, d.below hb h1, e.below hb h2⟩⟩
end Knd
abbrev Rn (w : World) (A : Option Addr) (xs : List Int) : Prop := (Knd.int .u32).Row w A xs
theorem Rn.take {w : World} {A : Option Addr} {xs : List Int} (h : Rn w A xs) (n : Nat) : Rn w A (xs.take n) := by
 intro i hi
 rw [List.length_take] at hi
 obtain ⟨ad, cs, e, hC, hc⟩ := h i (by omega)
 exact ⟨ad, cs, e, by rw [List.getElem_take]; exact hC, hc⟩
theorem Rn.drop {w : World} {A : Option Addr} {xs : List Int} (h : Rn w A xs) (n : Nat) : Rn w (A.map (·.add n)) (xs.drop n) := by
 intro i hi
 rw [List.length_drop] at hi
 obtain ⟨ad, cs, e, hC, hc⟩ := h (n + i) (by omega)
 refine ⟨ad.add n, cs, by rw [e]; rfl, by rw [List.getElem_drop]; exact hC, fun j u hu => ?_⟩
 have := hc j u hu
 rw [show (ad.add n).add (i * (Knd.int .u32).sz + j) = ad.add ((n + i) * (Knd.int .u32).sz + j) from by
  show (ad.add n).add (i * 1 + j) = ad.add ((n + i) * 1 + j)
  unfold Addr.add
  by_cases hn : n = 0
  · subst hn; simp
  · by_cases h0 : i * 1 + j = 0
    · rw [if_pos h0, if_neg hn, if_neg (by omega)]
      congr 1
      omega
    · rw [if_neg h0, if_neg hn, if_neg (by omega)]
      simp only
      congr 1
      omega]
 exact this
theorem Rn.nil (w : World) (A : Option Addr) : Rn w A [] := Knd.row_nil _ _ _
def Own (w : World) (g : Nat) (cs : List Value) : Prop := ∃ t, w.heap[g]? = some (.cells cs.toArray t (0, 0))
abbrev OwnN (w : World) (g : Nat) (xs : List Int) : Prop := Own w g (xs.map (Value.int .u32))
theorem Own.lt {w : World} {g : Nat} {cs : List Value} (h : Own w g cs) : g < w.heap.size := by
 obtain ⟨t, h⟩ := h
 exact (Array.getElem?_eq_some_iff.1 h).1
theorem Own.cell {w : World} {g : Nat} {cs : List Value} (h : Own w g cs) (i : Nat) (hi : i < cs.length) : w.cell? ⟨g, i, none⟩ = some cs[i] := by
 obtain ⟨t, h⟩ := h
 simp [World.cell?, h, List.getElem?_eq_getElem hi]
theorem Own.frozen {w : World} {g : Nat} {cs : List Value} (h : Own w g cs) (i : Nat) : w.frozen? ⟨g, i, none⟩ = false := by
 obtain ⟨t, h⟩ := h
 simp [World.frozen?, h]
theorem Own.set {w : World} {g : Nat} {cs : List Value} (h : Own w g cs) (i : Nat) (v : Value) : Own (w.setCell ⟨g, i, none⟩ v) g (cs.set i v) := by
 obtain ⟨t, h⟩ := h
 have hlt := (Array.getElem?_eq_some_iff.1 h).1
 refine ⟨t, ?_⟩
 simp only [World.setCell, Array.getElem?_modify, if_pos, h]
 simp
theorem Own.far {w : World} {g : Nat} {cs : List Value} (h : Own w g cs) {p : Addr} (hp : g ≠ p.block) (v : Value) : Own (w.setCell p v) g cs := by
 obtain ⟨t, h⟩ := h
 exact ⟨t, (Below.heap_setCell w p v g hp).trans h⟩
theorem Own.below {w w1 : World} {g B : Nat} {cs : List Value} (h : Own w g cs) (hb : Below B w w1) (hg : g < B) : Own w1 g cs := by
 obtain ⟨t, h⟩ := h
 exact ⟨t, (hb.block g hg).trans h⟩
theorem Own.alloc {w : World} {g : Nat} {cs : List Value} (h : Own w g cs) (o : Obj) : Own (w.alloc o) g cs := by
 obtain ⟨t, h'⟩ := h
 exact ⟨t, (Below.heap_alloc w o g (Array.getElem?_eq_some_iff.1 h').1).trans h'⟩
theorem Own.drewN {w : World} {g : Nat} {cs : List Value} (h : Own w g cs) (n : Nat) : Own (w.drewN n) g cs := h
theorem Own.drew {w : World} {g : Nat} {cs : List Value} (h : Own w g cs) : Own w.drew g cs := h
theorem Own.mk {w : World} (cs : List Value) (t : TypeId) : Own (w.alloc (.cells cs.toArray t (0, 0))) w.heap.size cs := ⟨t, by show (w.heap.push _)[w.heap.size]? = _; simp⟩
theorem OwnN.cell {w : World} {g : Nat} {xs : List Int} (h : OwnN w g xs) (i : Nat) (hi : i < xs.length) : w.cell? ⟨g, i, none⟩ = some (.int .u32 xs[i]) := by
 rw [Own.cell h i (by simpa using hi)]; simp
theorem OwnN.set {w : World} {g : Nat} {xs : List Int} (h : OwnN w g xs) (i : Nat) (y : Int) : OwnN (w.setCell ⟨g, i, none⟩ (.int .u32 y)) g (xs.set i y) := by
 have := Own.set h i (.int .u32 y)
 rwa [← List.map_set] at this
theorem OwnN.row {w : World} {g : Nat} {xs : List Int} (h : OwnN w g xs) : Rn w (some ⟨g, 0, none⟩) xs := by
 intro i hi
 refine ⟨⟨g, 0, none⟩, [.int .u32 xs[i]], rfl, rfl, fun j u hu => ?_⟩
 have hj : j = 0 := by
  cases j with
  | zero => rfl
  | succ j => simp at hu
 subst hj
 simp at hu
 subst hu
 rw [show (⟨g, 0, none⟩ : Addr).add (i * (Knd.int .u32).sz + 0) = ⟨g, i, none⟩ from by
  show (⟨g, 0, none⟩ : Addr).add (i * 1 + 0) = ⟨g, i, none⟩
  unfold Addr.add
  split
  · congr 1; omega
  · simp]
 exact OwnN.cell h i hi
theorem own_made (w : World) (z : Value) (n : Nat) (t : TypeId) : Own (w.alloc (.cells (madeCells #[z] n) t)) w.heap.size (List.replicate n z) := by
 refine ⟨t, ?_⟩
 show (w.heap.push _)[w.heap.size]? = _
 rw [Array.getElem?_push_size, ← toList_madeCells_one]
theorem own_zeros (w : World) (n : Nat) (t : TypeId) : OwnN (w.alloc (.cells (madeCells #[.int .u32 0] n) t)) w.heap.size (List.replicate n 0) := by
 have := own_made w (.int .u32 0) n t
 rwa [← List.map_replicate] at this
theorem run_makeN {P : Program} (t e : TypeId) (i : TypeInfo) (z : Value) (ht : P.underlying t = some (.slice e)) (hi : P.info? e = some i) (hz : i.zero = some z)
 (kl kc : IntKind) (n c : Nat) (hnc : n ≤ c) (hbytes : i.bytes * c ≤ 281474976710656) (h63 : c ≤ 9223372036854775807) (w : World) :
 (Instr.makeSlice t (.int kl (n : Int)) (.int kc (c : Int))).run P w = .ok (.slice (some ⟨w.heap.size, 0, none⟩) n c) (w.alloc (.cells (madeCells z.cells (c * i.size)) e)) := by
 have hb : (i.bytes : Int) * (c : Int) ≤ 281474976710656 := by
  have h : ((i.bytes * c : Nat) : Int) ≤ 281474976710656 := by omega
  rwa [Int.natCast_mul] at h
 have hr := run_make (P := P) w t e i z ht hi hz kl kc n c (by omega) (by omega) hb (by omega)
 simp only [Int.toNat_natCast] at hr
 exact hr
theorem run_makeL {P : Program} (t e : TypeId) (ht : P.underlying t = some (.slice e)) (hi : (P.info? e).map (fun i => (i.zero, i.size, i.bytes)) = some (some (.int .u32 0), 1, 4))
 (x : Int) (n : Nat) (hx : x = n) (hb : n ≤ 70368744177664) (w : World) :
 (Instr.makeSlice t (.int .i64 x) (.int .i64 x)).run P w = .ok (.slice (some ⟨w.heap.size, 0, none⟩) n n) (w.alloc (.cells (madeCells #[.int .u32 0] n) e)) := by
 subst hx
 obtain ⟨i, hi0, hz, hs, hby⟩ := info_parts hi
 have := run_makeN (P := P) t e i (.int .u32 0) ht hi0 hz .i64 .i64 n n (Nat.le_refl _) (by rw [hby]; omega) (by omega) w
 rw [hs, Nat.mul_one] at this
 exact this
theorem wpList_copyN {P : Program} {w : World} {ops : Array Oper} {rest : List Oper} {o : Oper} {a : Act} {Q : Exit → Act → World → Prop} (hgd : o.guard = none) (d s : Operand) (dT sT : TypeId)
 (ho : o.op = .call { callee := .builtin .copy, args := #[d, s], argTypes := #[dT, sT] }) (elem : TypeId) (hu : P.underlying dT = some (.slice elem)) (hsz : (P.info? elem).map (·.size) = some 1)
 (sp : Option Addr) (n dCap sCap g : Nat) (hd : a.eval d = .slice (some ⟨g, 0, none⟩) n dCap) (hs : a.eval s = .slice sp n sCap)
 (ys cur : List Int) (hlen : ys.length = n) (hr : Rn w sp ys) (hcur : cur.length = n) (hown : OwnN w g cur) (B : Nat) (w0 : World) (hb : Below B w0 w) (hBg : B ≤ g)
 (h : ∀ w', Hid (OwnN w' g ys) → Hid (Below B w0 w') → wpList P ops Q rest (a.put o.dst (goInt n)) w') :
 wpList P ops Q (o :: rest) a w := by
 obtain ⟨t, hg⟩ := hown
 refine wpList_copy_splice hgd d s dT sT ho elem hu hsz (some ⟨g, 0, none⟩) sp n dCap n sCap hd hs g 0 (cur.map (Value.int .u32)) t hg (ys.map (Value.int .u32)) (by simp [hlen]) (fun hp => ⟨rfl, ?_⟩)
  (by simp [hlen, hcur]) (by simp [Value.oneCell']) B w0 hb hBg (fun w' h1 h2 => ?_)
 · have hp' : 0 < ys.length := by simpa using hp
   obtain ⟨ad, e, _⟩ := Knd.at_int hr 0 hp'
   refine ⟨ad, e, fun j v hj => ?_⟩
   obtain ⟨hj1, hj2⟩ := List.getElem?_eq_some_iff.1 hj
   have hj3 : j < ys.length := by simpa using hj1
   obtain ⟨ad', e', hc⟩ := Knd.at_int hr j hj3
   rw [e] at e'
   cases e'
   rw [hc, ← hj2]
   simp
 · have h1' := h1.out
   have e : splice (cur.map (Value.int .u32)) 0 (ys.map (Value.int .u32)) = ys.map (Value.int .u32) := by
    unfold splice
    rw [List.take_zero, List.nil_append, List.drop_of_length_le (by simp [hlen, hcur]), List.append_nil]
   rw [e] at h1'
   have := h w' (show Hid _ from ⟨t, h1'⟩) (show Hid _ from h2)
   simpa [hlen] using this
def Dr (w w' : World) : Prop := ∃ n, w' = w.drewN n
theorem Dr.refl (w : World) : Dr w w := ⟨0, rfl⟩
theorem Dr.step {w w' : World} (h : Dr w w') (n : Nat) : Dr w (w'.drewN n) := by
 obtain ⟨m, rfl⟩ := h
 exact ⟨m + n, World.drewN_drewN _ _ _⟩
theorem i64w {x : Int} (h0 : -9223372036854775808 ≤ x) (h1 : x ≤ 9223372036854775807) : IntKind.i64.wrap x = x := by rw [IntKind.wrap_i64]; omega
theorem u64w {x : Int} (h0 : 0 ≤ x) (h1 : x < 18446744073709551616) : IntKind.u64.wrap x = x := by rw [IntKind.wrap_u64]; omega
theorem ret_bool {a b : Bool} (h : a = b) : Ending.returned (.bool a) = .returned (.bool b) := by rw [h]
theorem ret_slice {A : Option Addr} {n m c : Nat} (h : n = m) : Ending.returned (.slice A n c) = .returned (.slice A m c) := by rw [h]
theorem ret_int {k : IntKind} {a b : Int} (h : a = b) : Ending.returned (.int k a) = .returned (.int k b) := by rw [h]
open Go.RowKit
def Opens {α : Type} (P : Program) (t : TypeId) (d : Knd α) (ok : α → (H : Type) → DataW H → Prop) : Prop :=
 ∀ (H : Type) (enc : TypeId × Value → H) (w : World) (fuel : Nat) (cs : List Value) (x : DataW H × List MemPlace),
  DataW.trod enc P w 0 (fun _ => true) true fuel t cs = some x → ∃ a, d.C w a cs ∧ ok a H x.1
def okInt (k : IntKind) : Int → (H : Type) → DataW H → Prop := fun a _ d => (Lit.int k a).wf = true ∧ d = .lit (.int k a)
def okBool : Bool → (H : Type) → DataW H → Prop := fun a _ d => d = .lit (.bool a)
def okSlice {α : Type} (ok : α → (H : Type) → DataW H → Prop) : List α → (H : Type) → DataW H → Prop := fun xs H d =>
 (xs = [] ∧ d = .nil) ∨ ∃ elems spare, d = .slice elems spare ∧ elems.length = xs.length ∧ ∀ i (h : i < xs.length) (h' : i < elems.length), ok xs[i] H elems[i]
theorem opens_int {P : Program} {t : TypeId} {k : IntKind} (ht : P.underlying t = some (.int k)) : Opens P t (Knd.int k) (okInt k) := by
 intro H enc w fuel cs x h
 cases fuel with
 | zero => simp [DataW.trod] at h
 | succ fuel =>
  unfold DataW.trod at h
  rw [ht] at h
  split at h <;> try (first | (simp at h; done) | (rename_i h1; cases h1; done) | (rename_i h1 _; cases h1; done))
  rename_i k0 k' n h1
  simp at h1
  subst h1
  split at h
  · rename_i hw
    cases h
    exact ⟨n, by show _ = _; rw [hw.1], hw.2, rfl⟩
  · simp at h
theorem opens_bool {P : Program} {t : TypeId} (ht : P.underlying t = some .bool) : Opens P t Knd.bool okBool := by
 intro H enc w fuel cs x h
 cases fuel with
 | zero => simp [DataW.trod] at h
 | succ fuel =>
  unfold DataW.trod at h
  rw [ht] at h
  split at h <;> try (first | (simp at h; done) | (rename_i h1; cases h1; done) | (rename_i h1 _; cases h1; done))
  cases h
  exact ⟨_, rfl, rfl⟩
theorem mapM_some {α β : Type} {f : α → Option β} : ∀ {l : List α} {r : List β}, l.mapM f = some r → r.length = l.length ∧ ∀ i (h : i < l.length) (h' : i < r.length), f l[i] = some r[i]
 | [], r, h => by
  simp at h
  subst h
  exact ⟨rfl, fun i h => by simp at h⟩
 | a :: l, r, h => by
  rw [List.mapM_cons] at h
  cases hf : f a with
  | none => simp [hf] at h
  | some b =>
   cases hr : l.mapM f with
   | none => simp [hf, hr] at h
   | some r0 =>
    simp [hf, hr] at h
    subst h
    obtain ⟨h1, h2⟩ := mapM_some hr
    refine ⟨by simp [h1], fun i hi hi' => ?_⟩
    cases i with
    | zero => simpa using hf
    | succ i => simpa using h2 i (by simpa using hi) (by simpa using hi')
theorem add_add (a : Addr) (m j : Nat) : (a.add m).add j = a.add (m + j) := by
 unfold Addr.add
 by_cases hm : m = 0
 · subst hm; simp
 · by_cases hj : j = 0
   · subst hj; simp
   · simp [hm, hj, Nat.add_assoc]
theorem cells?_some {w : World} {base : Nat} {a : Addr} {n : Nat} {cs : List Value} (h : w.cells? base a n = some cs) : cs.length = n ∧ ∀ (j : Nat) u, cs[j]? = some u → w.cell? (a.add j) = some u := by
 unfold World.cells? at h
 split at h
 · obtain ⟨h1, h2⟩ := mapM_some h
   simp at h1
   refine ⟨h1, fun j u hu => ?_⟩
   obtain ⟨hj, e⟩ := List.getElem?_eq_some_iff.1 hu
   have := h2 j (by simpa [h1] using hj) hj
   rw [e] at this
   simpa using this
 · simp at h
theorem opens_slice {α : Type} {P : Program} {t e : TypeId} {d : Knd α} {ok : α → (H : Type) → DataW H → Prop} (ht : P.underlying t = some (.slice e)) (ce : P.cellsOf e = d.sz) (he : Opens P e d ok) :
 Opens P t d.slice (okSlice ok) := by
 intro H enc w fuel cs x h
 cases fuel with
 | zero => simp [DataW.trod] at h
 | succ fuel =>
  unfold DataW.trod at h
  rw [ht] at h
  split at h <;> try (first | (simp at h; done) | (rename_i h1; cases h1; done) | (rename_i h1 _; cases h1; done))
  · cases h
    exact ⟨[], ⟨none, 0, rfl, Nat.le_refl _, by simp, Knd.row_nil _ _ _⟩, .inl ⟨rfl, rfl⟩⟩
  · rename_i e0 a len cap h1
    simp only [Option.some.injEq, TypeDesc.slice.injEq] at h1
    subst h1
    dsimp only at h
    split at h
    · rename_i hb
      rw [ce] at h
      cases hm : (List.range len).mapM (fun i => (w.cells? 0 (a.add (i * d.sz)) d.sz).bind (DataW.trod enc P w 0 (fun _ => true) true fuel e)) with
      | none => rw [hm] at h; simp at h
      | some elems =>
       rw [hm] at h
       simp only [Option.bind_some, if_true] at h
       cases hr : (List.range (cap - len)).mapM (fun j => (w.cells? 0 (a.add ((len + j) * d.sz)) d.sz).bind (DataW.trod enc P w 0 (fun _ => true) true fuel e)) with
       | none => rw [hr] at h; simp at h
       | some rest =>
        rw [hr] at h
        simp only [Option.map_some, Option.some.injEq] at h
        subst h
        obtain ⟨h1, h2⟩ := mapM_some hm
        simp at h1
        have each : ∀ i, i < len → ∃ y : α, ∃ cs, d.C w y cs ∧ (∀ (j : Nat) u, cs[j]? = some u → w.cell? (a.add (i * d.sz + j)) = some u) ∧ ∀ h' : i < elems.length, ok y H (elems[i]).1 := by
         intro i hi
         have hq := h2 i (by simpa using hi) (by rw [h1]; exact hi)
         simp only [List.getElem_range] at hq
         cases hc : w.cells? 0 (a.add (i * d.sz)) d.sz with
         | none => rw [hc] at hq; simp at hq
         | some cs =>
          rw [hc] at hq
          simp only [Option.bind_some] at hq
          obtain ⟨y, hy, hok⟩ := he H enc w fuel cs _ hq
          exact ⟨y, cs, hy, fun j u hu => by rw [← add_add]; exact (cells?_some hc).2 j u hu, fun _ => hok⟩
        have : ∃ xs : List α, xs.length = len ∧ ∀ i (hi : i < xs.length), ∃ cs, d.C w xs[i] cs ∧ (∀ (j : Nat) u, cs[j]? = some u → w.cell? (a.add (i * d.sz + j)) = some u) ∧ ∀ h' : i < elems.length, ok xs[i] H (elems[i]).1 := by
         refine ⟨(List.range len).attach.map fun i => (each i.1 (List.mem_range.1 i.2)).choose, by simp, fun i hi => ?_⟩
         simp only [List.getElem_map, List.getElem_attach, List.getElem_range]
         exact (each i (by simpa using hi)).choose_spec
        obtain ⟨xs, hl, hx⟩ := this
        refine ⟨xs, ⟨some a, cap, by rw [hl], by rw [hl]; exact hb.2.1, by rw [hl]; exact Nat.le_trans hb.2.1 hb.2.2, fun i hi => ?_⟩, .inr ⟨_, _, rfl, by simp [h1, hl], fun i hi hi' => ?_⟩⟩
        · obtain ⟨cs, h3, h4, _⟩ := hx i hi
          exact ⟨a, cs, rfl, h3, h4⟩
        · obtain ⟨cs, _, _, h5⟩ := hx i hi
          simpa using h5 (by simpa using hi')
    · simp at h
theorem opens_string {P : Program} {t : TypeId} (ht : P.underlying t = some .string) : Opens P t Knd.string (fun s _ d => s.size ≤ 9223372036854775807 ∧ d = .lit (.string s.data.toList)) := by
 intro H enc w fuel cs x h
 cases fuel with
 | zero => simp [DataW.trod] at h
 | succ fuel =>
  unfold DataW.trod at h
  rw [ht] at h
  split at h <;> try (first | (simp at h; done) | (rename_i h1; cases h1; done) | (rename_i h1 _; cases h1; done))
  split at h
  · rename_i hs
    cases h
    exact ⟨_, rfl, hs, rfl⟩
  · simp at h
def okPair {α β : Type} (ok : α → (H : Type) → DataW H → Prop) (ok' : β → (H : Type) → DataW H → Prop) : α × β → (H : Type) → DataW H → Prop := fun x H d =>
 ∃ p q, d = .agg [p, q] ∧ ok x.1 H p ∧ ok' x.2 H q
theorem opens_pair {α β : Type} {P : Program} {t : TypeId} {d : Knd α} {e : Knd β} {ok : α → (H : Type) → DataW H → Prop} {ok' : β → (H : Type) → DataW H → Prop} {f g : Field}
 (ht : P.underlying t = some (.struct #[f, g])) (hc : P.cellsOf t = d.sz + e.sz) (h0 : f.offset = 0) (h1 : g.offset = d.sz) (cf : P.cellsOf f.type = d.sz) (cg : P.cellsOf g.type = e.sz)
 (hf : Opens P f.type d ok) (hg : Opens P g.type e ok') : Opens P t (d.pair e) (okPair ok ok') := by
 intro H enc w fuel cs x h
 cases fuel with
 | zero => simp [DataW.trod] at h
 | succ fuel =>
  simp only [DataW.trod, ht] at h
  split at h
  · rename_i hl
    rw [hc] at hl
    simp only [List.mapM_cons, List.mapM_nil, h0, h1, cf, cg, List.drop_zero] at h
    cases ha : DataW.trod enc P w 0 (fun _ => true) true fuel f.type (cs.take d.sz) with
    | none => rw [ha] at h; simp at h
    | some a =>
     cases hb : DataW.trod enc P w 0 (fun _ => true) true fuel g.type ((cs.drop d.sz).take e.sz) with
     | none => rw [ha, hb] at h; simp at h
     | some b =>
      rw [ha, hb] at h
      simp at h
      subst h
      obtain ⟨x, hx, okx⟩ := hf H enc w fuel _ _ ha
      obtain ⟨y, hy, oky⟩ := hg H enc w fuel _ _ hb
      refine ⟨(x, y), ⟨_, _, ?_, hx, hy⟩, _, _, rfl, okx, oky⟩
      rw [List.take_of_length_le (l := cs.drop d.sz) (by simp; omega), List.take_append_drop]
  · simp at h
end Go.Proofs.YtidgpkccjcddgaaGreatDoor.F

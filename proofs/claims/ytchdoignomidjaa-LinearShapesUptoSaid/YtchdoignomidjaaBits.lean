/- The walks of math/bits' functions on 32 bits. Conditions: the arguments are of 32 bits; a carry is 0 or 1. -/
import Derived.Test.YtchdoignomidjaaProg
import Derived.Test.YtchdoignomidjaaBase
import Derived.Lib.BitFns
import Derived.Lib.ItoaNum
import Derived.Lib.Strings
import Derived.Lib.Slices
import Derived.Lib.Small
import Derived.Lib.Walk
set_option linter.unusedVariables false
set_option linter.unusedSimpArgs false
namespace Go.Proofs.Ytchdoignomidjaa.F
open Go.RowKit Go.Shelf

theorem ret_two {k l : IntKind} {a b c d : Int} (h : a = b) (h' : c = d) : Ending.returned (.tuple #[.int k a, .int l c]) = .returned (.tuple #[.int k b, .int l d]) := by rw [h, h']

theorem bits_Add32 (x y c : Int) (w : World) (hx : 0 ≤ x ∧ x < 4294967296) (hy : 0 ≤ y ∧ y < 4294967296) (hc : 0 ≤ c ∧ c ≤ 1) :
    Calls Try.prog 143 #[.int .u32 x, .int .u32 y, .int .u32 c] w fun e w' => e = .returned (.tuple #[.int .u32 ((x + y + c) % 4294967296), .int .u32 ((x + y + c) / 4294967296)]) ∧ w' = w := by
  obtain ⟨hx0, hx1⟩ := hx
  obtain ⟨hy0, hy1⟩ := hy
  obtain ⟨hc0, hc1⟩ := hc
  go_enter Try.func143, Try.ntmps143
  go_wp2
  go_ret2
  exact ⟨ret_two (by omega) (by omega), rfl⟩

/-- the borrow -/
def bor (a b : Int) : Int := if a < b then 1 else 0
theorem top32 {n : Nat} (h : n < 4294967296) : n / 2147483648 = (n.testBit 31).toNat := by
  rw [Nat.testBit_eq_decide_div_mod_eq]
  by_cases h1 : n / 2147483648 = 1
  · rw [h1]; simp [h1]
  · have h0 : n / 2147483648 = 0 := by omega
    rw [h0]; simp [h0]
theorem borrow_nat (x y d : Nat) (c : Nat) (hx : x < 4294967296) (hy : y < 4294967296) (hc : c ≤ 1) (hd : d < 4294967296) (e : (d + y + c = x) ∨ (d + y + c = x + 4294967296)) :
    ((((4294967295 ^^^ x) &&& y) ||| ((4294967295 ^^^ (x ^^^ y)) &&& d)) / 2147483648 : Nat) = if x < y + c then 1 else 0 := by
  have l1 : (4294967295 ^^^ x) < 2 ^ 32 := Nat.xor_lt_two_pow (by omega) (by omega)
  have l2 : ((4294967295 ^^^ x) &&& y) < 2 ^ 32 := Nat.and_lt_two_pow _ (by omega)
  have l3 : ((4294967295 ^^^ (x ^^^ y)) &&& d) < 2 ^ 32 := Nat.and_lt_two_pow _ (by omega)
  have l4 := Nat.or_lt_two_pow l2 l3
  rw [top32 (by omega)]
  simp only [Nat.testBit_or, Nat.testBit_and, Nat.testBit_xor]
  have m : (4294967295 : Nat).testBit 31 = true := by decide
  have b : ∀ n : Nat, n < 4294967296 → n.testBit 31 = decide (2147483648 ≤ n) := fun n hn => by
    rw [Nat.testBit_eq_decide_div_mod_eq]
    rw [Bool.eq_iff_iff]
    simp
    omega
  rw [m, b x hx, b y hy, b d hd]
  by_cases q1 : 2147483648 ≤ x <;> by_cases q2 : 2147483648 ≤ y <;> by_cases q3 : 2147483648 ≤ d <;> simp [q1, q2, q3] <;> omega
theorem borrow_int (x y c : Int) (hx : 0 ≤ x ∧ x < 4294967296) (hy : 0 ≤ y ∧ y < 4294967296) (hc : 0 ≤ c ∧ c ≤ 1) :
    bits BinOp.or IntKind.u32 (bits BinOp.and IntKind.u32 (bits BinOp.xor IntKind.u32 IntKind.u32.max x) y)
        (bits BinOp.and IntKind.u32 (bits BinOp.xor IntKind.u32 IntKind.u32.max (bits BinOp.xor IntKind.u32 x y)) ((x - y - c) % 4294967296)) / 2147483648 = bor x (y + c) := by
  obtain ⟨x, rfl⟩ := Int.eq_ofNat_of_zero_le hx.1
  obtain ⟨y, rfl⟩ := Int.eq_ofNat_of_zero_le hy.1
  obtain ⟨c, rfl⟩ := Int.eq_ofNat_of_zero_le hc.1
  obtain ⟨d, hd⟩ := Int.eq_ofNat_of_zero_le (show 0 ≤ ((x : Int) - y - c) % 4294967296 by omega)
  have hx' : x < 4294967296 := by omega
  have hy' : y < 4294967296 := by omega
  have hd' : d < 4294967296 := by omega
  have mx : IntKind.u32.max = ((4294967295 : Nat) : Int) := by decide
  have l0 : x ^^^ y < 2 ^ 32 := Nat.xor_lt_two_pow (by omega) (by omega)
  have l1 : (4294967295 ^^^ x) < 2 ^ 32 := Nat.xor_lt_two_pow (by omega) (by omega)
  have l5 : (4294967295 ^^^ (x ^^^ y)) < 2 ^ 32 := Nat.xor_lt_two_pow (by omega) l0
  have l2 : ((4294967295 ^^^ x) &&& y) < 2 ^ 32 := Nat.and_lt_two_pow _ (by omega)
  have l3 : ((4294967295 ^^^ (x ^^^ y)) &&& d) < 2 ^ 32 := Nat.and_lt_two_pow _ (by omega)
  rw [hd, mx, u32_xor_nat _ _ (by omega) hx', u32_and_nat _ _ (by omega) hy', u32_xor_nat _ _ hx' hy', u32_xor_nat _ _ (by omega) (by omega), u32_and_nat _ _ (by omega) hd', u32_or_nat _ _ (by omega) (by omega)]
  have := borrow_nat x y d c hx' hy' (by omega) hd' (by omega)
  have e2 : ((((4294967295 ^^^ x) &&& y) ||| ((4294967295 ^^^ (x ^^^ y)) &&& d) : Nat) : Int) / 2147483648 = (((((4294967295 ^^^ x) &&& y) ||| ((4294967295 ^^^ (x ^^^ y)) &&& d)) / 2147483648 : Nat) : Int) := by omega
  rw [e2, this]
  unfold bor
  split <;> split <;> omega

theorem bits_Sub32 (x y c : Int) (w : World) (hx : 0 ≤ x ∧ x < 4294967296) (hy : 0 ≤ y ∧ y < 4294967296) (hc : 0 ≤ c ∧ c ≤ 1) :
    Calls Try.prog 144 #[.int .u32 x, .int .u32 y, .int .u32 c] w fun e w' => e = .returned (.tuple #[.int .u32 ((x - y - c) % 4294967296), .int .u32 (bor x (y + c))]) ∧ w' = w := by
  have HB := Lib.hid (borrow_int x y c hx hy hc)
  obtain ⟨hx0, hx1⟩ := hx
  obtain ⟨hy0, hy1⟩ := hy
  obtain ⟨hc0, hc1⟩ := hc
  go_enter Try.func144, Try.ntmps144
  go_wp2
  go_ret2
  exact ⟨ret_two rfl HB.out, rfl⟩

theorem join64 (h l : Int) (hh : 0 ≤ h ∧ h < 4294967296) (hl : 0 ≤ l ∧ l < 4294967296) : bits .or .u64 (h * 4294967296) l = h * 4294967296 + l := by
  rw [u64_or _ _ (by omega) (by omega) (by omega) (by omega), nat_join 32 _ _ (by omega) (by omega)]
  omega

theorem bits_Div32 (h l d : Int) (w : World) (hh : 0 ≤ h ∧ h < d) (hl : 0 ≤ l ∧ l < 4294967296) (hd : d < 4294967296) :
    Calls Try.prog 137 #[.int .u32 h, .int .u32 l, .int .u32 d] w fun e w' => e = .returned (.tuple #[.int .u32 ((h * 4294967296 + l) / d), .int .u32 ((h * 4294967296 + l) % d)]) ∧ Below w.heap.size w w' := by
  obtain ⟨hh0, hh1⟩ := hh
  obtain ⟨hl0, hl1⟩ := hl
  have t1 : (d != 0) = true := by rw [bne_iff_ne]; omega
  have t2 : decide (d ≤ h) = false := by simp; omega
  go_enter Try.func137, Try.ntmps137
  go_wp2
  rw [join64 h l (by omega) (by omega)]
  have q0 : 0 ≤ h * 4294967296 + l := by omega
  have q1 : h * 4294967296 + l < 18446744073709551616 := by omega
  have q2 : 0 ≤ (h * 4294967296 + l) / d := Int.ediv_nonneg q0 (by omega)
  have q3 : (h * 4294967296 + l) / d < 4294967296 := by
    rw [Int.ediv_lt_iff_lt_mul (by omega)]
    have : (h + 1) * 4294967296 ≤ d * 4294967296 := by omega
    omega
  have q4 : 0 ≤ (h * 4294967296 + l) % d := Int.emod_nonneg _ (by omega)
  have q5 : (h * 4294967296 + l) % d < d := Int.emod_lt_of_pos _ (by omega)
  go_quiet (fail)
  go_wp2
  go_ret2
  exact ⟨rfl, below_drewN (Below.refl _ _) _⟩

theorem wrap_add (k a b : Nat) (hk : k ≤ 56) (ha : a ≤ 8) (hb : b = k + a) : wrap64 ((k : Int) + wrap64 (a : Int)) = (b : Int) := by
  unfold wrap64
  omega
theorem wrap_one (a : Nat) (ha : a ≤ 8) : wrap64 (wrap64 (a : Int)) = (a : Int) := by
  unfold wrap64
  omega
theorem len8_get (y : Int) (h : y.toNat < Lib.len8tab.size) : ((Lib.len8tab[y.toNat]'h).toNat : Int) = Lib.len8 y := by
  unfold Lib.len8
  rw [getElem?_pos Lib.len8tab y.toNat h]
  rfl

set_option maxHeartbeats 4000000 in
set_option maxRecDepth 100000 in
theorem bits_Len32 (x : Int) (w : World) (h0 : 0 ≤ x) (h1 : x ≤ 4294967295) :
    Calls Try.prog 134 #[.int .u32 x] w fun e w' => e = .returned (.int .i64 (Lib.bitLen x.toNat)) ∧ w' = w := by
  have hs : (Lib.len8tab.size : Int) = 256 := by rw [Lib.len8tab_size]; rfl
  go_enter Try.func134, Try.ntmps134
  go_wp2
  all_goals (go_ret; refine ⟨ret_int ?_, rfl⟩)
  all_goals first
    | (rw [len8_get (x / 65536 / 256) _, Lib.len8_of (x / 65536 / 256) (by omega) (by omega)]
       have e : (x / 65536 / 256).toNat = x.toNat / 16777216 := by omega
       have l := Lib.bitLen_le8' (x / 65536 / 256) (by omega) (by omega)
       have s := Lib.bitLen_shift24 x.toNat (by omega) (by omega)
       rw [e] at l ⊢
       exact wrap_add 24 _ _ (by decide) l s)
    | (rw [len8_get (x / 65536) _, Lib.len8_of (x / 65536) (by omega) (by omega)]
       have e : (x / 65536).toNat = x.toNat / 65536 := by omega
       have l := Lib.bitLen_le8' (x / 65536) (by omega) (by omega)
       have s := Lib.bitLen_shift16 x.toNat (by omega) (by omega)
       rw [e] at l ⊢
       exact wrap_add 16 _ _ (by decide) l s)
    | (rw [len8_get (x / 256) _, Lib.len8_of (x / 256) (by omega) (by omega)]
       have e : (x / 256).toNat = x.toNat / 256 := by omega
       have l := Lib.bitLen_le8' (x / 256) (by omega) (by omega)
       have s := Lib.bitLen_shift8 x.toNat (by omega) (by omega)
       rw [e] at l ⊢
       exact wrap_add 8 _ _ (by decide) l s)
    | (rw [len8_get x _, Lib.len8_of x (by omega) (by omega)]
       have l := Lib.bitLen_le8' x (by omega) (by omega)
       exact wrap_one _ l)

theorem bits_LeadingZeros32 (x : Int) (w : World) (h0 : 0 ≤ x) (h1 : x ≤ 4294967295) :
    Calls Try.prog 138 #[.int .u32 x] w fun e w' => e = .returned (.int .i64 (32 - (Lib.bitLen x.toNat : Int))) ∧ w' = w := by
  have hb : Lib.bitLen x.toNat ≤ 32 := Lib.bitLen_le x.toNat 32 (by omega) (by omega)
  have H := Lib.hid (bits_Len32 x w h0 h1)
  go_enter Try.func138, Try.ntmps138
  go_wp2_with fail
  refine H.out.mono ?_
  clear H
  rintro e w' ⟨rfl, rfl⟩
  go_wp2
  go_ret
  exact ⟨rfl, rfl⟩

theorem bitLen_bounds {x : Nat} (h : x < 4294967296) (h0 : x ≠ 0) : 1 ≤ Lib.bitLen x ∧ Lib.bitLen x ≤ 32 ∧ 2 ^ (Lib.bitLen x - 1) ≤ x ∧ x < 2 ^ Lib.bitLen x := by
  obtain ⟨a, b, c⟩ := Lib.bitLenAux_bounds 64 x (by omega) h0
  exact ⟨a, Lib.bitLen_le x 32 (by omega) (by omega), b, c⟩
theorem bitLen_zero : Lib.bitLen 0 = 0 := Lib.bitLenAux_zero 64
end Go.Proofs.Ytchdoignomidjaa.F

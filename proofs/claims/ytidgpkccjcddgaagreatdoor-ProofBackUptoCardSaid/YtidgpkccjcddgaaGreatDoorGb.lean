/- The walks of package nat (natural numbers): each tells the normal form of what it should. Conditions: the limbs are limbs, lengths below 2^40. -/
import Derived.Test.YtidgpkccjcddgaaGreatDoorProg
import Derived.Test.YtidgpkccjcddgaaGreatDoorGa
import Derived.Lib.BitFns
import Derived.Lib.ItoaNum
import Derived.Lib.Strings
import Derived.Lib.Slices
import Derived.Lib.Small
import Derived.Lib.Walk
import Derived.StillTailTactics
import Derived.BigRegion
set_option linter.unusedVariables false
set_option linter.unusedSimpArgs false
namespace Go.Proofs.YtidgpkccjcddgaaGreatDoor.F
open Go.RowKit Go.Shelf
def nf (xs : List Int) : List Int := dg (V xs).toNat
theorem nf_len {xs : List Int} (h : Lim xs) : (nf xs).length ≤ xs.length := dg_len_of_V h
theorem Lim_nf (xs : List Int) : Lim (nf xs) := Lim_dg _
theorem V_nf {xs : List Int} (h : Lim xs) : V (nf xs) = V xs := by
 unfold nf; rw [V_dg]; have := V_nonneg h; omega
theorem info96 : (Tryz.prog.info? 133).map (fun i => (i.zero, i.size, i.bytes)) = some (some (.int .u32 0), 1, 4) := by kernel_rfl
theorem nat_trim (A : Option Addr) (c : Nat) (xs : List Int) (w : World) (h : Rn w A xs) (hl : Lim xs) (hc : xs.length ≤ c) (hm : xs.length ≤ 1099511627776) :
 Calls Tryz.prog 197 #[.slice A xs.length c] w fun e w' => e = .returned (.slice A (nf xs).length c) ∧ Rn w' A (nf xs) ∧ Below w.heap.size w w' := by
 have HX := Lib.hid h
 have HL := Lib.hid hl
 clear h hl
 go_enter Tryz.func197, Tryz.ntmps197
 go_wp2
 go_loopg [3] xs.length (fun gg s3 wr => ∃ k : Nat, k ≤ xs.length ∧ k ≤ gg ∧ s3 = .int .i64 k ∧ Hid (Below w.heap.size w wr) ∧ Hid (∀ i (hi : i < xs.length), k ≤ i → xs[i] = 0))
 case atStart => exact ⟨xs.length, by omega, by omega, rfl, Below.refl _ w, fun i hi hk => by omega⟩
 case round =>
  obtain ⟨k, hk, hg, rfl, BW, A1⟩ := hrel
  by_cases h0 : 0 < k
  · obtain ⟨j, rfl⟩ : ∃ j, k = j + 1 := ⟨k - 1, by omega⟩
    obtain ⟨ad, rfl, hcell⟩ := Knd.at_int HX.out j (by omega)
    have hcell' := cell_below BW.out hcell
    clear hcell
    by_cases hz : xs[j] = 0
    · have HZ := Lib.hid hz
      rw [hz] at hcell'
      clear hz
      go_wp2
      go_roundg j
      case measure => omega
      case rel =>
       refine ⟨j, by omega, by omega, by go_num, by first | exact BW | exact below_drewN BW _, (show Hid _ from fun i hi hj => ?_)⟩
       by_cases e : i = j
       · subst e; exact HZ.out
       · exact A1.out i hi (by omega)
    · have HT := Lib.hid (take_dg HL.out hk A1.out (fun _ => hz))
      have hz' : (xs[j] == 0) = false := by simpa using hz
      clear hz
      generalize xs[j] = y at hcell' hz'
      go_wp2
      go_ret
      have e : (nf xs).length = j + 1 := by rw [nf, ← HT.out, List.length_take]; omega
      exact ⟨ret_slice e.symm, by rw [nf, ← HT.out]; exact (HX.out.take _).below BW.out, BW.out⟩
  · obtain rfl : k = 0 := by omega
    have HT := Lib.hid (take_dg HL.out hk A1.out (fun h => absurd h (Nat.lt_irrefl 0)))
    go_wp2
    go_ret
    have e : (nf xs).length = 0 := by rw [nf, ← HT.out]; rfl
    exact ⟨ret_slice e.symm, by rw [nf, ← HT.out]; exact (HX.out.take _).below BW.out, BW.out⟩
set_option maxHeartbeats 1000000 in
theorem nat_own (A : Option Addr) (c : Nat) (xs : List Int) (w : World) (h : Rn w A xs) (hl : Lim xs) (hc : xs.length ≤ c) (hm : xs.length ≤ 1099511627776) :
 Calls Tryz.prog 198 #[.slice A xs.length c] w fun e w' => ∃ A' c', e = .returned (.slice A' (nf xs).length c') ∧ (nf xs).length ≤ c' ∧ Rn w' A' (nf xs) ∧ Below w.heap.size w w' := by
 have H1 := Lib.hid (nat_trim A c xs w h hl hc hm)
 have hle := nf_len hl
 generalize hn : nf xs = ys at H1 hle
 clear hn h hl
 by_cases h0 : ys = []
 · subst h0
   go_enter Tryz.func198, Tryz.ntmps198
   go_wp2_with fail
   refine H1.out.mono ?_
   clear H1
   rintro e w1 ⟨rfl, hr, hb⟩
   have HB := Lib.hid hb
   clear hr hb
   go_wp2_with fail
   go_ret
   exact ⟨none, 0, rfl, Nat.le_refl _, Rn.nil _ _, HB.out⟩
 · have hp : 0 < ys.length := List.length_pos_iff.2 h0
   have hp' : ((ys.length : Int) == 0) = false := by simpa using h0
   have hmk := fun W => run_makeL (P := Tryz.prog) 39 133 Tryz.underlying39 info96 (ys.length : Int) ys.length rfl (by omega) W
   clear h0
   go_enter Tryz.func198, Tryz.ntmps198
   go_wp2_with fail
   refine H1.out.mono ?_
   clear H1
   rintro e w1 ⟨rfl, hr, hb⟩
   have HB := Lib.hid hb
   have HR := Lib.hid hr
   clear hr hb
   go_wp2_with (with_reducible refine wpList_copyN rfl (.tmp 12) (.tmp 13) 39 39 rfl 133 Tryz.underlying39 (by kernel_rfl) A ys.length ys.length c w1.heap.size rfl rfl ys (List.replicate ys.length 0) rfl ?c1 (by simp) ?c2 w.heap.size w ?c3 ?c4 ?c5)
   case c1 => exact HR.out.below ((Below.refl _ _).alloc (Nat.le_refl _) _)
   case c2 => exact own_zeros _ _ _
   case c3 => exact HB.out.alloc HB.out.size _
   case c4 => exact HB.out.size
   case c5 =>
    intro w2 ho hb2
    go_wp2_with fail
    go_ret
    exact ⟨some ⟨w1.heap.size, 0, none⟩, ys.length, rfl, Nat.le_refl _, OwnN.row ho.out, hb2.out⟩
theorem nat_Norm (A : Option Addr) (c : Nat) (xs : List Int) (w : World) (h : Rn w A xs) (hl : Lim xs) (hc : xs.length ≤ c) (hm : xs.length ≤ 1099511627776) :
 Calls Tryz.prog 201 #[.slice A xs.length c] w fun e w' => ∃ A' c', e = .returned (.slice A' (nf xs).length c') ∧ (nf xs).length ≤ c' ∧ Rn w' A' (nf xs) ∧ Below w.heap.size w w' := by
 have H1 := Lib.hid (nat_own A c xs w h hl hc hm)
 clear h hl
 go_enter Tryz.func201, Tryz.ntmps201
 go_wp2_with fail
 refine H1.out.mono ?_
 clear H1
 rintro e w1 ⟨A', c', rfl, h1, h2, h3⟩
 have H2 := Lib.hid h2
 have H3 := Lib.hid h3
 clear h2 h3
 go_wp2_with fail
 go_ret
 exact ⟨A', c', rfl, h1, H2.out, H3.out⟩
def sgn (a : Int) : Int := if a < 0 then -1 else if 0 < a then 1 else 0
theorem V_top {xs ys : List Int} (hx : Lim xs) (hy : Lim ys) (he : xs.length = ys.length) {i : Nat} (hi : i < xs.length) (hs : ∀ j (h1 : j < xs.length) (h2 : j < ys.length), i < j → xs[j] = ys[j])
 (hlt : xs[i] < ys[i]'(by omega)) : V xs < V ys := by
 have hi' : i < ys.length := by omega
 have e : xs.drop (i + 1) = ys.drop (i + 1) := by
  refine List.ext_getElem (by simp [he]) fun j h1 h2 => ?_
  rw [List.getElem_drop, List.getElem_drop]
  exact hs _ _ _ (by omega)
 rw [V_split xs i (by omega), V_split ys i (by omega), V_drop hi, V_drop hi', e]
 have h1 := V_lt (hx.take i)
 have h2 := V_nonneg (hy.take i)
 rw [List.length_take, Nat.min_eq_left (by omega)] at h1
 have h3 : Bp i * (xs[i] + 1 + 4294967296 * V (ys.drop (i + 1))) ≤ Bp i * (ys[i] + 4294967296 * V (ys.drop (i + 1))) := Int.mul_le_mul_of_nonneg_left (by omega) (Int.le_of_lt (Bp_pos i))
 have h4 : Bp i * (xs[i] + 1 + 4294967296 * V (ys.drop (i + 1))) = Bp i * (xs[i] + 4294967296 * V (ys.drop (i + 1))) + Bp i := by grind
 omega
theorem V_longer {xs ys : List Int} (hx : Lim xs) (hy : Lim ys) (hn : Nrm ys) (h : xs.length < ys.length) : V xs < V ys := by
 have h1 := V_lt hx
 have hne : ys ≠ [] := by intro e; rw [e] at h; simp at h
 have h2 := V_pos_of_ne hy (i := ys.length - 1) (by omega) (by have := hn hne; rwa [List.getLast_eq_getElem] at this)
 have h3 := Bp_le (show xs.length ≤ ys.length - 1 by omega)
 omega
set_option maxHeartbeats 1000000 in
theorem nat_Cmp (A : Option Addr) (c : Nat) (xs : List Int) (B : Option Addr) (d : Nat) (ys : List Int) (w : World) (h : Rn w A xs) (hl : Lim xs) (hc : xs.length ≤ c) (hm : xs.length ≤ 1099511627776)
 (k : Rn w B ys) (kl : Lim ys) (kc : ys.length ≤ d) (km : ys.length ≤ 1099511627776) :
 Calls Tryz.prog 124 #[.slice A xs.length c, .slice B ys.length d] w fun e w' => e = .returned (.int .i64 (sgn (V xs - V ys))) ∧ Below w.heap.size w w' := by
 have H1 := Lib.hid (nat_trim A c xs w h hl hc hm)
 have H2 := Lib.hid (fun (W : World) (hb : Below w.heap.size w W) => nat_trim B d ys W (k.below hb) kl kc km)
 have hle := nf_len hl
 have kle := nf_len kl
 rw [← V_nf hl, ← V_nf kl]
 have L1 := Lib.hid (Lim_nf xs)
 have L2 := Lib.hid (Lim_nf ys)
 have N1 := Lib.hid (show Nrm (nf xs) from Nrm_dg _)
 have N2 := Lib.hid (show Nrm (nf ys) from Nrm_dg _)
 generalize nf xs = us at *
 generalize nf ys = vs at *
 clear h hl k kl
 rcases Nat.lt_trichotomy us.length vs.length with hlt | heq | hgt
 · have hr := Lib.hid (V_longer L1.out L2.out N2.out hlt)
   have t1 : ((us.length : Int) != (vs.length : Int)) = true := by rw [bne_iff_ne]; omega
   have t2 : (us.length != vs.length) = true := by rw [bne_iff_ne]; omega
   go_enter Tryz.func124, Tryz.ntmps124
   go_wp2_with fail
   refine H1.out.mono ?_
   clear H1
   rintro e w1 ⟨rfl, h1, hb1⟩
   have HB1 := Lib.hid hb1
   clear h1 hb1
   go_wp2_with fail
   refine (H2.out _ HB1.out).mono ?_
   clear H2
   rintro e w2 ⟨rfl, h2, hb2⟩
   have HB2 := Lib.hid (HB1.out.trans (hb2.mono HB1.out.size))
   clear h2 hb2 HB1
   go_wp2_with fail
   go_ret
   exact ⟨ret_int (by have := hr.out; unfold sgn; rw [if_pos (by omega)]), HB2.out⟩
 · have t1 : ((us.length : Int) != (vs.length : Int)) = false := by rw [bne_eq_false_iff_eq]; omega
   have t2 : (us.length != vs.length) = false := by rw [bne_eq_false_iff_eq]; omega
   have Heq := Lib.hid heq
   clear heq
   go_enter Tryz.func124, Tryz.ntmps124
   go_wp2_with fail
   refine H1.out.mono ?_
   clear H1
   rintro e w1 ⟨rfl, h1, hb1⟩
   have HB1 := Lib.hid hb1
   have R1 := Lib.hid h1
   clear h1 hb1
   go_wp2_with fail
   refine (H2.out _ HB1.out).mono ?_
   clear H2
   rintro e w2 ⟨rfl, h2, hb2⟩
   have HB2 := Lib.hid (HB1.out.trans (hb2.mono HB1.out.size))
   have R1' := Lib.hid (R1.out.below hb2)
   have R2 := Lib.hid h2
   clear h2 hb2 HB1 R1
   go_wp2_with fail
   go_loopg [5] us.length (fun gg s5 wr => ∃ z : Int, -1 ≤ z ∧ z < (us.length : Int) ∧ z + 1 ≤ gg ∧ s5 = .int .i64 z ∧ Hid (Below w2.heap.size w2 wr) ∧ Hid (∀ j (h1 : j < us.length) (h2 : j < vs.length), z < j → us[j] = vs[j]))
   case atStart => exact ⟨(us.length : Int) - 1, by omega, by omega, by omega, rfl, Below.refl _ w2, fun j h1 h2 h3 => by omega⟩
   case round =>
    obtain ⟨z, hz1, hz2, hg, rfl, BW, A1⟩ := hrel
    by_cases h0 : 0 ≤ z
    · obtain ⟨j, rfl⟩ := Int.eq_ofNat_of_zero_le h0
      have hj1 : j < us.length := by omega
      have hj2 : j < vs.length := by have := Heq.out; omega
      have hz3 : (j : Int) < (vs.length : Int) := by omega
      obtain ⟨ad, rfl, hcell⟩ := Knd.at_int R1'.out j hj1
      obtain ⟨bd, rfl, hcell2⟩ := Knd.at_int R2.out j hj2
      have c1 := cell_below BW.out hcell
      have c2 := cell_below BW.out hcell2
      clear hcell hcell2
      have b1 := L1.out.get j hj1
      have b2 := L2.out.get j hj2
      have q1 : Hid (us[j] < vs[j] → V us < V vs) := fun h => V_top L1.out L2.out Heq.out hj1 (fun i h1 h2 h3 => A1.out i h1 h2 (by omega)) h
      have q2 : Hid (vs[j] < us[j] → V vs < V us) := fun h => V_top L2.out L1.out Heq.out.symm hj2 (fun i h1 h2 h3 => (A1.out i h2 h1 (by omega)).symm) h
      have A2 : Hid (us[j] = vs[j] → ∀ i (h1 : i < us.length) (h2 : i < vs.length), (j : Int) - 1 < i → us[i] = vs[i]) := fun he i h1 h2 h3 => by
       by_cases e : i = j
       · subst e; exact he
       · exact A1.out i h1 h2 (by omega)
      clear A1
      generalize us[j] = x at *
      generalize vs[j] = y at *
      rcases Int.lt_trichotomy x y with hxy | hxy | hxy
      · have e1 : (x != y) = true := by rw [bne_iff_ne]; omega
        have e2 : decide (x < y) = true := by simpa using hxy
        have hr := Lib.hid (q1.out hxy)
        clear hxy
        go_wp2
        go_quiet (fail)
        go_wp2
        go_quiet (fail)
        go_wp2
        go_ret
        exact ⟨ret_int (by have := hr.out; unfold sgn; rw [if_pos (by omega)]), below_drewN (below_drewN (HB2.out.trans (BW.out.mono HB2.out.size)) _) _⟩
      · subst hxy
        have e1 : (x != x) = false := by simp
        have A3 := Lib.hid (A2.out rfl)
        clear A2
        go_wp2
        go_quiet (fail)
        go_wp2
        go_roundg j
        case measure => omega
        case rel => exact ⟨(j : Int) - 1, by omega, by omega, by omega, rfl, below_drewN BW.out _, A3.out⟩
      · have e1 : (x != y) = true := by rw [bne_iff_ne]; omega
        have e2 : decide (x < y) = false := by simp; omega
        have hr := Lib.hid (q2.out hxy)
        clear hxy
        go_wp2
        go_quiet (fail)
        go_wp2
        go_quiet (fail)
        go_wp2
        go_ret
        exact ⟨ret_int (by have := hr.out; unfold sgn; rw [if_neg (by omega), if_pos (by omega)]), below_drewN (below_drewN (HB2.out.trans (BW.out.mono HB2.out.size)) _) _⟩
    · have hr : Hid (us = vs) := List.ext_getElem Heq.out fun i h1 h2 => A1.out i h1 h2 (by omega)
      clear A1
      go_wp2
      go_ret
      exact ⟨ret_int (by rw [hr.out]; simp [sgn]), HB2.out.trans (BW.out.mono HB2.out.size)⟩
 · have hr := Lib.hid (V_longer L2.out L1.out N1.out hgt)
   have t1 : ((us.length : Int) != (vs.length : Int)) = true := by rw [bne_iff_ne]; omega
   have t2 : (us.length != vs.length) = true := by rw [bne_iff_ne]; omega
   go_enter Tryz.func124, Tryz.ntmps124
   go_wp2_with fail
   refine H1.out.mono ?_
   clear H1
   rintro e w1 ⟨rfl, h1, hb1⟩
   have HB1 := Lib.hid hb1
   have R1 := Lib.hid h1
   clear h1 hb1
   go_wp2_with fail
   refine (H2.out _ HB1.out).mono ?_
   clear H2
   rintro e w2 ⟨rfl, h2, hb2⟩
   have HB2 := Lib.hid (HB1.out.trans (hb2.mono HB1.out.size))
   have R1' := Lib.hid (R1.out.below hb2)
   have R2 := Lib.hid h2
   clear h2 hb2 HB1 R1
   go_wp2_with fail
   go_ret
   exact ⟨ret_int (by have := hr.out; unfold sgn; rw [if_neg (by omega), if_pos (by omega)]), HB2.out⟩
theorem ret_two {k l : IntKind} {a b c d : Int} (h : a = b) (h' : c = d) : Ending.returned (.tuple #[.int k a, .int l c]) = .returned (.tuple #[.int k b, .int l d]) := by rw [h, h']
theorem bits_Add32 (x y c : Int) (w : World) (hx : 0 ≤ x ∧ x < 4294967296) (hy : 0 ≤ y ∧ y < 4294967296) (hc : 0 ≤ c ∧ c ≤ 1) :
 Calls Tryz.prog 241 #[.int .u32 x, .int .u32 y, .int .u32 c] w fun e w' => e = .returned (.tuple #[.int .u32 ((x + y + c) % 4294967296), .int .u32 ((x + y + c) / 4294967296)]) ∧ w' = w := by
 obtain ⟨hx0, hx1⟩ := hx
 obtain ⟨hy0, hy1⟩ := hy
 obtain ⟨hc0, hc1⟩ := hc
 go_enter Tryz.func241, Tryz.ntmps241
 go_wp2
 go_ret2
 exact ⟨ret_two (by omega) (by omega), rfl⟩
def bor (a b : Int) : Int := if a < b then 1 else 0
theorem top32 {n : Nat} (h : n < 4294967296) : n / 2147483648 = (n.testBit 31).toNat := by
 rw [Nat.testBit_eq_decide_div_mod_eq]
 by_cases h1 : n / 2147483648 = 1
 · rw [h1]; simp [h1]
 · have h0 : n / 2147483648 = 0 := by omega
   rw [h0]; simp [h0]
theorem borrow_nat (x y d : Nat) (c : Nat) (hx : x < 4294967296) (hy : y < 4294967296) (hc : c ≤ 1) (hd : d < 4294967296) (e : (d + y + c = x) ∨ (d + y + c = x + 4294967296)) :
 ((((4294967295 ^^^ x) &&& y) ||| ((4294967295 ^^^ (x ^^^ y)) &&& d)) / 2147483648 : Nat) = if x < y + c then 1 else 0 := by
 have l1 : (4294967295 ^^^ x) < 2 ^ 32 := Nat.xor_lt_two_pow (by omega) (by omega)
 have l2 : ((4294967295 ^^^ x) &&& y) < 2 ^ 32 := Nat.and_lt_two_pow _ (by omega)
 have l3 : ((4294967295 ^^^ (x ^^^ y)) &&& d) < 2 ^ 32 := Nat.and_lt_two_pow _ (by omega)
 have l4 := Nat.or_lt_two_pow l2 l3
 rw [top32 (by omega)]
 simp only [Nat.testBit_or, Nat.testBit_and, Nat.testBit_xor]
 have m : (4294967295 : Nat).testBit 31 = true := by decide
 have b : ∀ n : Nat, n < 4294967296 → n.testBit 31 = decide (2147483648 ≤ n) := fun n hn => by
  rw [Nat.testBit_eq_decide_div_mod_eq]
  rw [Bool.eq_iff_iff]
  simp
  omega
 rw [m, b x hx, b y hy, b d hd]
 by_cases q1 : 2147483648 ≤ x <;> by_cases q2 : 2147483648 ≤ y <;> by_cases q3 : 2147483648 ≤ d <;> simp [q1, q2, q3] <;> omega
theorem borrow_int (x y c : Int) (hx : 0 ≤ x ∧ x < 4294967296) (hy : 0 ≤ y ∧ y < 4294967296) (hc : 0 ≤ c ∧ c ≤ 1) :
 bits BinOp.or IntKind.u32 (bits BinOp.and IntKind.u32 (bits BinOp.xor IntKind.u32 IntKind.u32.max x) y)
  (bits BinOp.and IntKind.u32 (bits BinOp.xor IntKind.u32 IntKind.u32.max (bits BinOp.xor IntKind.u32 x y)) ((x - y - c) % 4294967296)) / 2147483648 = bor x (y + c) := by
 obtain ⟨x, rfl⟩ := Int.eq_ofNat_of_zero_le hx.1
 obtain ⟨y, rfl⟩ := Int.eq_ofNat_of_zero_le hy.1
 obtain ⟨c, rfl⟩ := Int.eq_ofNat_of_zero_le hc.1
 obtain ⟨d, hd⟩ := Int.eq_ofNat_of_zero_le (show 0 ≤ ((x : Int) - y - c) % 4294967296 by omega)
 have hx' : x < 4294967296 := by omega
 have hy' : y < 4294967296 := by omega
 have hd' : d < 4294967296 := by omega
 have mx : IntKind.u32.max = ((4294967295 : Nat) : Int) := by decide
 have l0 : x ^^^ y < 2 ^ 32 := Nat.xor_lt_two_pow (by omega) (by omega)
 have l1 : (4294967295 ^^^ x) < 2 ^ 32 := Nat.xor_lt_two_pow (by omega) (by omega)
 have l5 : (4294967295 ^^^ (x ^^^ y)) < 2 ^ 32 := Nat.xor_lt_two_pow (by omega) l0
 have l2 : ((4294967295 ^^^ x) &&& y) < 2 ^ 32 := Nat.and_lt_two_pow _ (by omega)
 have l3 : ((4294967295 ^^^ (x ^^^ y)) &&& d) < 2 ^ 32 := Nat.and_lt_two_pow _ (by omega)
 rw [hd, mx, u32_xor_nat _ _ (by omega) hx', u32_and_nat _ _ (by omega) hy', u32_xor_nat _ _ hx' hy', u32_xor_nat _ _ (by omega) (by omega), u32_and_nat _ _ (by omega) hd', u32_or_nat _ _ (by omega) (by omega)]
 have := borrow_nat x y d c hx' hy' (by omega) hd' (by omega)
 have e2 : ((((4294967295 ^^^ x) &&& y) ||| ((4294967295 ^^^ (x ^^^ y)) &&& d) : Nat) : Int) / 2147483648 = (((((4294967295 ^^^ x) &&& y) ||| ((4294967295 ^^^ (x ^^^ y)) &&& d)) / 2147483648 : Nat) : Int) := by omega
 rw [e2, this]
 unfold bor
 split <;> split <;> omega
theorem bits_Sub32 (x y c : Int) (w : World) (hx : 0 ≤ x ∧ x < 4294967296) (hy : 0 ≤ y ∧ y < 4294967296) (hc : 0 ≤ c ∧ c ≤ 1) :
 Calls Tryz.prog 282 #[.int .u32 x, .int .u32 y, .int .u32 c] w fun e w' => e = .returned (.tuple #[.int .u32 ((x - y - c) % 4294967296), .int .u32 (bor x (y + c))]) ∧ w' = w := by
 have HB := Lib.hid (borrow_int x y c hx hy hc)
 obtain ⟨hx0, hx1⟩ := hx
 obtain ⟨hy0, hy1⟩ := hy
 obtain ⟨hc0, hc1⟩ := hc
 go_enter Tryz.func282, Tryz.ntmps282
 go_wp2
 go_ret2
 exact ⟨ret_two rfl HB.out, rfl⟩
theorem join64 (h l : Int) (hh : 0 ≤ h ∧ h < 4294967296) (hl : 0 ≤ l ∧ l < 4294967296) : bits .or .u64 (h * 4294967296) l = h * 4294967296 + l := by
 rw [u64_or _ _ (by omega) (by omega) (by omega) (by omega), nat_join 32 _ _ (by omega) (by omega)]
 omega
theorem bits_Div32 (h l d : Int) (w : World) (hh : 0 ≤ h ∧ h < d) (hl : 0 ≤ l ∧ l < 4294967296) (hd : d < 4294967296) :
 Calls Tryz.prog 252 #[.int .u32 h, .int .u32 l, .int .u32 d] w fun e w' => e = .returned (.tuple #[.int .u32 ((h * 4294967296 + l) / d), .int .u32 ((h * 4294967296 + l) % d)]) ∧ Below w.heap.size w w' := by
 obtain ⟨hh0, hh1⟩ := hh
 obtain ⟨hl0, hl1⟩ := hl
 have t1 : (d != 0) = true := by rw [bne_iff_ne]; omega
 have t2 : decide (d ≤ h) = false := by simp; omega
 go_enter Tryz.func252, Tryz.ntmps252
 go_wp2
 rw [join64 h l (by omega) (by omega)]
 have q0 : 0 ≤ h * 4294967296 + l := by omega
 have q1 : h * 4294967296 + l < 18446744073709551616 := by omega
 have q2 : 0 ≤ (h * 4294967296 + l) / d := Int.ediv_nonneg q0 (by omega)
 have q3 : (h * 4294967296 + l) / d < 4294967296 := by
  rw [Int.ediv_lt_iff_lt_mul (by omega)]
  have : (h + 1) * 4294967296 ≤ d * 4294967296 := by omega
  omega
 have q4 : 0 ≤ (h * 4294967296 + l) % d := Int.emod_nonneg _ (by omega)
 have q5 : (h * 4294967296 + l) % d < d := Int.emod_lt_of_pos _ (by omega)
 go_quiet (fail)
 go_wp2
 go_ret2
 exact ⟨rfl, below_drewN (Below.refl _ _) _⟩
theorem wrap_add (k a b : Nat) (hk : k ≤ 56) (ha : a ≤ 8) (hb : b = k + a) : wrap64 ((k : Int) + wrap64 (a : Int)) = (b : Int) := by
 unfold wrap64
 omega
theorem wrap_one (a : Nat) (ha : a ≤ 8) : wrap64 (wrap64 (a : Int)) = (a : Int) := by
 unfold wrap64
 omega
theorem len8_get (y : Int) (h : y.toNat < Lib.len8tab.size) : ((Lib.len8tab[y.toNat]'h).toNat : Int) = Lib.len8 y := by
 unfold Lib.len8
 rw [getElem?_pos Lib.len8tab y.toNat h]
 rfl
set_option maxHeartbeats 4000000 in
set_option maxRecDepth 100000 in
theorem bits_Len32 (x : Int) (w : World) (h0 : 0 ≤ x) (h1 : x ≤ 4294967295) :
 Calls Tryz.prog 203 #[.int .u32 x] w fun e w' => e = .returned (.int .i64 (Lib.bitLen x.toNat)) ∧ w' = w := by
 have hs : (Lib.len8tab.size : Int) = 256 := by rw [Lib.len8tab_size]; rfl
 go_enter Tryz.func203, Tryz.ntmps203
 go_wp2
 all_goals (go_ret; refine ⟨ret_int ?_, rfl⟩)
 all_goals first
  | (rw [len8_get (x / 65536 / 256) _, Lib.len8_of (x / 65536 / 256) (by omega) (by omega)]
     have e : (x / 65536 / 256).toNat = x.toNat / 16777216 := by omega
     have l := Lib.bitLen_le8' (x / 65536 / 256) (by omega) (by omega)
     have s := Lib.bitLen_shift24 x.toNat (by omega) (by omega)
     rw [e] at l ⊢
     exact wrap_add 24 _ _ (by decide) l s)
  | (rw [len8_get (x / 65536) _, Lib.len8_of (x / 65536) (by omega) (by omega)]
     have e : (x / 65536).toNat = x.toNat / 65536 := by omega
     have l := Lib.bitLen_le8' (x / 65536) (by omega) (by omega)
     have s := Lib.bitLen_shift16 x.toNat (by omega) (by omega)
     rw [e] at l ⊢
     exact wrap_add 16 _ _ (by decide) l s)
  | (rw [len8_get (x / 256) _, Lib.len8_of (x / 256) (by omega) (by omega)]
     have e : (x / 256).toNat = x.toNat / 256 := by omega
     have l := Lib.bitLen_le8' (x / 256) (by omega) (by omega)
     have s := Lib.bitLen_shift8 x.toNat (by omega) (by omega)
     rw [e] at l ⊢
     exact wrap_add 8 _ _ (by decide) l s)
  | (rw [len8_get x _, Lib.len8_of x (by omega) (by omega)]
     have l := Lib.bitLen_le8' x (by omega) (by omega)
     exact wrap_one _ l)
theorem bits_LeadingZeros32 (x : Int) (w : World) (h0 : 0 ≤ x) (h1 : x ≤ 4294967295) :
 Calls Tryz.prog 255 #[.int .u32 x] w fun e w' => e = .returned (.int .i64 (32 - (Lib.bitLen x.toNat : Int))) ∧ w' = w := by
 have hb : Lib.bitLen x.toNat ≤ 32 := Lib.bitLen_le x.toNat 32 (by omega) (by omega)
 have H := Lib.hid (bits_Len32 x w h0 h1)
 go_enter Tryz.func255, Tryz.ntmps255
 go_wp2_with fail
 refine H.out.mono ?_
 clear H
 rintro e w' ⟨rfl, rfl⟩
 go_wp2
 go_ret
 exact ⟨rfl, rfl⟩
theorem bitLen_bounds {x : Nat} (h : x < 4294967296) (h0 : x ≠ 0) : 1 ≤ Lib.bitLen x ∧ Lib.bitLen x ≤ 32 ∧ 2 ^ (Lib.bitLen x - 1) ≤ x ∧ x < 2 ^ Lib.bitLen x := by
 obtain ⟨a, b, c⟩ := Lib.bitLenAux_bounds 64 x (by omega) h0
 exact ⟨a, Lib.bitLen_le x 32 (by omega) (by omega), b, c⟩
def Told (w : World) (n : Int) (e : Ending) (w' : World) : Prop :=
 ∃ A c, e = .returned (.slice A (dg n.toNat).length c) ∧ (dg n.toNat).length ≤ c ∧ Rn w' A (dg n.toNat) ∧ Below w.heap.size w w'
theorem Told.mk {w : World} {n : Int} {xs : List Int} {A : Option Addr} {c : Nat} {w' : World} (h : xs = dg n.toNat) (hc : xs.length ≤ c) (hr : Rn w' A xs) (hb : Below w.heap.size w w') :
 Told w n (.returned (.slice A xs.length c)) w' := by
 subst h; exact ⟨A, c, rfl, hc, hr, hb⟩
theorem nat_own' (A : Option Addr) (n c : Nat) (xs : List Int) (w : World) (hn : xs.length = n) (h : Rn w A xs) (hl : Lim xs) (hc : n ≤ c) (hm : n ≤ 1099511627776) :
 Calls Tryz.prog 198 #[.slice A n c] w fun e w' => Told w (V xs) e w' := by
 subst hn
 exact (nat_own A c xs w h hl hc hm).mono fun e w' ⟨A', c', he, h1, h2, h3⟩ => by rw [he]; exact Told.mk rfl h1 h2 h3
set_option maxHeartbeats 2000000 in
theorem nat_Add (A : Option Addr) (c : Nat) (xs : List Int) (B : Option Addr) (d : Nat) (ys : List Int) (w : World) (h : Rn w A xs) (hl : Lim xs) (hc : xs.length ≤ c) (hm : xs.length ≤ 549755813888)
 (k : Rn w B ys) (kl : Lim ys) (kc : ys.length ≤ d) (km : ys.length ≤ 549755813888) :
 Calls Tryz.prog 187 #[.slice A xs.length c, .slice B ys.length d] w fun e w' => Told w (V xs + V ys) e w' := by
 have H1 := Lib.hid h
 have H2 := Lib.hid hl
 have K1 := Lib.hid k
 have K2 := Lib.hid kl
 clear h hl k kl
 generalize hS : V xs + V ys = S
 have HS := Lib.hid hS
 clear hS
 go_enter Tryz.func187, Tryz.ntmps187
 go_upto_if 13 with (fail)
 go_cut [0, 1] (fun s0 s1 wc => ∃ A c us B d vs, s0 = .slice A (List.length us) c ∧ s1 = .slice B (List.length vs) d ∧ List.length us ≤ 549755813888 ∧ List.length vs ≤ List.length us ∧ Hid (wc = w) ∧ Hid (V us + V vs = S) ∧ Hid (Rn w A us) ∧ Hid (Rn w B vs) ∧ Hid (Lim us) ∧ Hid (Lim vs) ∧ Hid (List.length us ≤ c))
 case first =>
  by_cases hlt : xs.length < ys.length
  · have hlt' : decide (xs.length < ys.length) = true := by simpa using hlt
    go_wp2
    go_meet
    case rel => exact ⟨B, d, ys, A, c, xs, rfl, rfl, km, by omega, rfl, by show _ = _; rw [← HS.out]; omega, K1, H1, K2, H2, kc⟩
  · have hlt' : decide (xs.length < ys.length) = false := by simpa using hlt
    go_wp2
    go_meet
    case rel => exact ⟨A, c, xs, B, d, ys, rfl, rfl, hm, by omega, rfl, HS, H1, K1, H2, K2, hc⟩
 case rest =>
  clear H1 H2 K1 K2 HS hm km hc kc
  obtain ⟨A, c, us, B, d, vs, rfl, rfl, hm, hle, HW, HS, H1, K1, H2, K2, hc⟩ := hcut
  have hw := HW.out
  subst hw
  clear HW
  have hmk := fun W => run_makeL (P := Tryz.prog) 39 133 Tryz.underlying39 info96 ((us.length : Int) + 1) (us.length + 1) (by omega) (by omega) W
  go_wp2
  clear hmk
  go_loopg [6, 22] us.length (fun gg s6 s22 wr => ∃ (k : Nat) (cy : Int) (cs : List Int), k ≤ us.length ∧ us.length - k ≤ gg ∧ s22 = .int .i64 k ∧ s6 = .int .u32 cy ∧ 0 ≤ cy ∧ cy ≤ 1 ∧ cs.length ≤ us.length + 1 ∧ us.length + 1 ≤ cs.length ∧
   Hid (OwnN wr wc.heap.size cs) ∧ Hid (Below wc.heap.size wc wr) ∧ Hid (Lim cs) ∧ Hid (V (cs.take k) + Bp k * cy = V (us.take k) + V (vs.take k)))
  case atStart => exact ⟨0, 0, List.replicate (us.length + 1) 0, Nat.zero_le _, by omega, rfl, rfl, by omega, by omega, by simp, by simp, own_zeros _ _ _, (Below.refl _ _).alloc (Nat.le_refl _) _, Lim.zeros _, by show _ = _; simp [V]⟩
  case round =>
   obtain ⟨k, cy, cs, hk, hg, rfl, rfl, hcy0, hcy1, hl1, hl2, HO, HB, HL, HE⟩ := hrel
   by_cases hlt : k < us.length
   · have hltz : (k : Int) < (us.length : Int) := by omega
     obtain ⟨ad, rfl, hcell⟩ := Knd.at_int H1.out k hlt
     have c1 := cell_below HB.out hcell
     have b1 := H2.out.get k hlt
     have e1 : us[k] = us.getD k 0 := by simp [List.getD, List.getElem?_eq_getElem hlt]
     rw [e1] at c1 b1
     have b2 := K2.out.getD k
     have HV := Lib.hid (V_take_getD us k)
     have KV := Lib.hid (V_take_getD vs k)
     have c3 := OwnN.cell HO.out k (by omega)
     have c4 := Own.frozen HO.out k
     have hst := Lib.hid (fun (y : Int) => V_take_set_succ (xs := cs) (k := k) (by omega) y)
     have HA := fun x : Int => Lib.hid (bits_Add32 (us.getD k 0) x cy wr b1)
     clear hcell e1
     by_cases hl : k < vs.length
     · have hlz : (k : Int) < (vs.length : Int) := by omega
       obtain ⟨bd, rfl, hcell⟩ := Knd.at_int K1.out k hl
       have c2 := cell_below HB.out hcell
       rw [show vs[k] = vs.getD k 0 by simp [List.getD, List.getElem?_eq_getElem hl]] at c2
       clear hcell
       generalize us.getD k 0 = x at *
       generalize vs.getD k 0 = y at *
       generalize cs[k] = z at c3
       go_wp2_with fail
       refine ((HA y).out b2 ⟨hcy0, hcy1⟩).mono ?_
       clear HA
       rintro e w' ⟨rfl, rfl⟩
       go_wp2
       go_roundg (us.length - (k + 1))
       case measure => omega
       case rel =>
        exact ⟨k + 1, (x + y + cy) / 4294967296, cs.set k ((x + y + cy) % 4294967296), by omega, by omega, by go_num, rfl, by omega, by omega, by simpa using hl1, by simpa using hl2, OwnN.set HO.out _ _, HB.out.setCell (Nat.le_refl _) _,
         HL.out.set _ (by omega) (by omega), by show _ = _; rw [hst.out, HV.out, KV.out]; exact add_step (by omega) HE.out⟩
     · have hlz : ¬ (k : Int) < (vs.length : Int) := by omega
       have e2 : vs.getD k 0 = 0 := by simp [List.getD, List.getElem?_eq_none (show vs.length ≤ k by omega)]
       rw [e2] at KV
       clear b2 e2
       generalize us.getD k 0 = x at *
       generalize cs[k] = z at c3
       go_wp2_with fail
       refine ((HA 0).out ⟨by omega, by omega⟩ ⟨hcy0, hcy1⟩).mono ?_
       clear HA
       rintro e w' ⟨rfl, rfl⟩
       go_wp2
       go_roundg (us.length - (k + 1))
       case measure => omega
       case rel =>
        exact ⟨k + 1, (x + 0 + cy) / 4294967296, cs.set k ((x + 0 + cy) % 4294967296), by omega, by omega, by go_num, by simp, by omega, by omega, by simpa using hl1, by simpa using hl2, (show OwnN _ _ _ from by simpa using OwnN.set HO.out k ((x + 0 + cy) % 4294967296)), HB.out.setCell (Nat.le_refl _) _,
         HL.out.set _ (by omega) (by omega), by show _ = _; rw [hst.out, HV.out, KV.out]; exact add_step (by omega) HE.out⟩
   · have hltz : ¬ (k : Int) < (us.length : Int) := by omega
     have hkl : Hid (k = us.length) := by show _ = _; omega
     have c3 := OwnN.cell HO.out us.length (by omega)
     have c4 := Own.frozen HO.out us.length
     generalize cs[us.length] = z at c3
     have HO2 := Lib.hid (OwnN.set HO.out us.length cy)
     have HL2 := Lib.hid (HL.out.set us.length (y := cy) (by omega) (by omega))
     have HE2 : Hid (V (cs.set us.length cy) = S) := by
      show _ = _
      have h1 := V_take_set_succ (xs := cs) (k := us.length) (by omega) cy
      have h2 := HE.out
      rw [hkl.out] at h2
      rw [V_take_all (by simp; omega)] at h1
      rw [h1, h2, V_take_all (Nat.le_refl _), V_take_all hle]
      exact HS.out
     have hlen : Hid ((cs.set us.length cy).length = us.length + 1) := by show _ = _; simp; omega
     generalize cs.set us.length cy = rs at HO2 HL2 HE2 hlen
     clear HE HL HO
     go_wp2_with fail
     have HB2 := Lib.hid (HB.out.setCell (p := ⟨wc.heap.size, us.length, none⟩) (Nat.le_refl _) (.int .u32 cy))
     refine (nat_own' (some ⟨wc.heap.size, 0, none⟩) (us.length + 1) (us.length + 1) rs _ hlen.out (OwnN.row HO2.out) HL2.out (Nat.le_refl _) (by omega)).mono ?_
     rintro e w' ⟨A', c', rfl, g1, g2, g3⟩
     rw [HE2.out]
     have G2 := Lib.hid g2
     have G3 := Lib.hid (HB2.out.trans (g3.mono HB2.out.size))
     rw [HE2.out] at G2 g1
     clear g2 g3
     go_wp2
     go_ret
     exact ⟨A', c', rfl, g1, G2.out, G3.out⟩
set_option maxHeartbeats 2000000 in
theorem nat_Sub (A : Option Addr) (c : Nat) (xs : List Int) (B : Option Addr) (d : Nat) (ys : List Int) (w : World) (h : Rn w A xs) (hl : Lim xs) (hc : xs.length ≤ c) (hm : xs.length ≤ 1099511627776)
 (k : Rn w B ys) (kl : Lim ys) (kc : ys.length ≤ d) (km : ys.length ≤ 1099511627776) (hle : V ys ≤ V xs) :
 Calls Tryz.prog 253 #[.slice A xs.length c, .slice B ys.length d] w fun e w' =>
  ∃ A' c', e = .returned (.tuple #[.slice A' (dg (V xs - V ys).toNat).length c', .int .i64 0]) ∧ (dg (V xs - V ys).toNat).length ≤ c' ∧ Rn w' A' (dg (V xs - V ys).toNat) ∧ Below w.heap.size w w' := by
 have HC := Lib.hid (nat_Cmp A c xs B d ys w h hl hc hm k kl kc km)
 have HT := Lib.hid (fun (W : World) (hb : Below w.heap.size w W) => nat_trim B d ys W (k.below hb) kl kc km)
 have hlen : (nf ys).length ≤ xs.length := by
  have h1 := V_nonneg hl
  have h2 := V_nonneg kl
  have := dg_length_mono (show (V ys).toNat ≤ (V xs).toNat by omega)
  exact Nat.le_trans this (nf_len hl)
 have hVy := Lib.hid (V_nf kl)
 have hsg : 0 ≤ sgn (V xs - V ys) := by unfold sgn; rw [if_neg (by omega)]; split <;> omega
 have K2 := Lib.hid (Lim_nf ys)
 rw [← hVy.out] at hle ⊢
 generalize nf ys = vs at *
 generalize sgn (V xs - V ys) = sg at *
 have H1 := Lib.hid h
 have H2 := Lib.hid hl
 have HLE := Lib.hid hle
 clear h hl k kl hle hVy
 go_enter Tryz.func253, Tryz.ntmps253
 go_wp2_with fail
 refine HC.out.mono ?_
 clear HC
 rintro e w1 ⟨rfl, hb1⟩
 have HB1 := Lib.hid hb1
 clear hb1
 go_wp2_with fail
 refine (HT.out _ HB1.out).mono ?_
 clear HT
 rintro e wc ⟨rfl, k1, hb2⟩
 have K1 := Lib.hid k1
 have HBc := Lib.hid (HB1.out.trans (hb2.mono HB1.out.size))
 have H1' := Lib.hid (H1.out.below HBc.out)
 clear k1 hb2 HB1 H1 hsg
 have hmk := fun W => run_makeL (P := Tryz.prog) 39 133 Tryz.underlying39 info96 (xs.length : Int) xs.length rfl (by omega) W
 go_wp2
 clear hmk
 go_loopg [7, 21] xs.length (fun gg s6 s22 wr => ∃ (k : Nat) (cy : Int) (cs : List Int), k ≤ xs.length ∧ xs.length - k ≤ gg ∧ s22 = .int .i64 k ∧ s6 = .int .u32 cy ∧ 0 ≤ cy ∧ cy ≤ 1 ∧ cs.length ≤ xs.length ∧ xs.length ≤ cs.length ∧
  Hid (OwnN wr wc.heap.size cs) ∧ Hid (Below wc.heap.size wc wr) ∧ Hid (Lim cs) ∧ Hid (V (cs.take k) - Bp k * cy = V (xs.take k) - V (vs.take k)))
 case atStart => exact ⟨0, 0, List.replicate xs.length 0, Nat.zero_le _, by omega, rfl, rfl, by omega, by omega, by simp, by simp, own_zeros _ _ _, (Below.refl _ _).alloc (Nat.le_refl _) _, Lim.zeros _, by show _ = _; simp [V]⟩
 case round =>
  obtain ⟨k, cy, cs, hk, hg, rfl, rfl, hcy0, hcy1, hl1, hl2, HO, HB, HL, HE⟩ := hrel
  by_cases hlt : k < xs.length
  · have hltz : (k : Int) < (xs.length : Int) := by omega
    obtain ⟨ad, rfl, hcell⟩ := Knd.at_int H1'.out k hlt
    have c1 := cell_below HB.out hcell
    have b1 := H2.out.get k hlt
    have e1 : xs[k] = xs.getD k 0 := by simp [List.getD, List.getElem?_eq_getElem hlt]
    rw [e1] at c1 b1
    have b2 := K2.out.getD k
    have HV := Lib.hid (V_take_getD xs k)
    have KV := Lib.hid (V_take_getD vs k)
    have c3 := OwnN.cell HO.out k (by omega)
    have c4 := Own.frozen HO.out k
    have hst := Lib.hid (fun (y : Int) => V_take_set_succ (xs := cs) (k := k) (by omega) y)
    have HA := fun x : Int => Lib.hid (bits_Sub32 (xs.getD k 0) x cy wr b1)
    clear hcell e1
    by_cases hl : k < vs.length
    · have hlz : (k : Int) < (vs.length : Int) := by omega
      obtain ⟨bd, rfl, hcell⟩ := Knd.at_int K1.out k hl
      have c2 := cell_below HB.out hcell
      rw [show vs[k] = vs.getD k 0 by simp [List.getD, List.getElem?_eq_getElem hl]] at c2
      clear hcell
      generalize xs.getD k 0 = x at *
      generalize vs.getD k 0 = y at *
      generalize cs[k] = z at c3
      go_wp2_with fail
      refine ((HA y).out b2 ⟨hcy0, hcy1⟩).mono ?_
      clear HA
      rintro e w' ⟨rfl, rfl⟩
      go_wp2
      go_roundg (xs.length - (k + 1))
      case measure => omega
      case rel =>
       exact ⟨k + 1, bor x (y + cy), cs.set k ((x - y - cy) % 4294967296), by omega, by omega, by go_num, rfl, by unfold bor; split <;> omega, by unfold bor; split <;> omega, by simpa using hl1, by simpa using hl2, OwnN.set HO.out _ _, HB.out.setCell (Nat.le_refl _) _,
        HL.out.set _ (by omega) (by omega), by show _ = _; rw [hst.out, HV.out, KV.out]; exact sub_step (by unfold bor; split <;> omega) HE.out⟩
    · have hlz : ¬ (k : Int) < (vs.length : Int) := by omega
      have e2 : vs.getD k 0 = 0 := by simp [List.getD, List.getElem?_eq_none (show vs.length ≤ k by omega)]
      rw [e2] at KV
      clear b2 e2
      generalize xs.getD k 0 = x at *
      generalize cs[k] = z at c3
      go_wp2_with fail
      refine ((HA 0).out ⟨by omega, by omega⟩ ⟨hcy0, hcy1⟩).mono ?_
      clear HA
      rintro e w' ⟨rfl, rfl⟩
      go_wp2
      go_roundg (xs.length - (k + 1))
      case measure => omega
      case rel =>
       exact ⟨k + 1, bor x (0 + cy), cs.set k ((x - 0 - cy) % 4294967296), by omega, by omega, by go_num, by simp, by unfold bor; split <;> omega, by unfold bor; split <;> omega, by simpa using hl1, by simpa using hl2, (show OwnN _ _ _ from by simpa using OwnN.set HO.out k ((x - 0 - cy) % 4294967296)), HB.out.setCell (Nat.le_refl _) _,
        HL.out.set _ (by omega) (by omega), by show _ = _; rw [hst.out, HV.out, KV.out]; exact sub_step (by unfold bor; split <;> omega) HE.out⟩
  · have hltz : ¬ (k : Int) < (xs.length : Int) := by omega
    have hkl : Hid (k = xs.length) := by show _ = _; omega
    have HE2 : Hid (V cs = V xs - V vs) := by
     show _ = _
     have h2 := HE.out
     rw [hkl.out, V_take_all hl1, V_take_all (Nat.le_refl _), V_take_all hlen] at h2
     have h3 := V_nonneg HL.out
     have h4 := V_lt HL.out
     have h5 := V_lt H2.out
     have h6 := V_nonneg K2.out
     rw [show cs.length = xs.length by omega] at h4
     have h7 := HLE.out
     rcases (show cy = 0 ∨ cy = 1 by omega) with h8 | h8 <;> rw [h8] at h2 <;> omega
    clear HE
    go_wp2_with fail
    refine (nat_own' (some ⟨wc.heap.size, 0, none⟩) xs.length xs.length cs _ (by omega) (OwnN.row HO.out) HL.out (Nat.le_refl _) (by omega)).mono ?_
    rintro e w' ⟨A', c', rfl, g1, g2, g3⟩
    rw [HE2.out] at *
    have G2 := Lib.hid g2
    have G3 := Lib.hid (HBc.out.trans ((HB.out.trans (g3.mono HB.out.size)).mono HBc.out.size))
    clear g2 g3
    go_wp2
    go_ret2
    exact ⟨A', c', rfl, g1, G2.out, G3.out⟩
theorem ret_sl {A : Option Addr} {n m : Nat} {x : Value} (h : n = m) : Ending.returned (.tuple #[.slice A n n, x]) = .returned (.tuple #[.slice A m m, x]) := by rw [h]
theorem mul_step {i k : Nat} {x y z t c c' A A' X Y Z : Int} (ht : x * y + z + c = t + 4294967296 * c') (hA : A' = A + Bp (i + k) * (t - z)) (H : A + Bp (i + k) * c = X * Z + Bp i * x * Y) :
 A' + Bp (i + (k + 1)) * c' = X * Z + Bp i * x * (Y + Bp k * y) := by
 have e : Bp (i + (k + 1)) = 4294967296 * Bp (i + k) := Bp_succ (i + k)
 have : Bp (i + k) * (x * y + z + c) = Bp (i + k) * (t + 4294967296 * c') := by rw [ht]
 rw [e, hA]
 rw [Bp_add] at *
 grind
theorem mul_le_max {x y : Int} (hx : 0 ≤ x ∧ x < 4294967296) (hy : 0 ≤ y ∧ y < 4294967296) : 0 ≤ x * y ∧ x * y ≤ 18446744065119617025 := by
 constructor
 · exact Int.mul_nonneg hx.1 hy.1
 · have h1 : x * y ≤ 4294967295 * y := Int.mul_le_mul_of_nonneg_right (by omega) hy.1
   omega
set_option maxHeartbeats 4000000 in
theorem nat_Mul (A : Option Addr) (c : Nat) (xs : List Int) (B : Option Addr) (d : Nat) (ys : List Int) (w : World) (h : Rn w A xs) (hl : Lim xs) (hc : xs.length ≤ c) (hm : xs.length ≤ 549755813888)
 (k : Rn w B ys) (kl : Lim ys) (kc : ys.length ≤ d) (km : ys.length ≤ 549755813888) :
 Calls Tryz.prog 151 #[.slice A xs.length c, .slice B ys.length d] w fun e w' => Told w (V xs * V ys) e w' := by
 have HT1 := Lib.hid (nat_trim A c xs w h hl hc (by omega))
 have HT2 := Lib.hid (fun (W : World) (hb : Below w.heap.size w W) => nat_trim B d ys W (k.below hb) kl kc (by omega))
 have hle1 := nf_len hl
 have hle2 := nf_len kl
 have H2 := Lib.hid (Lim_nf xs)
 have K2 := Lib.hid (Lim_nf ys)
 rw [← V_nf hl, ← V_nf kl]
 generalize nf xs = us at *
 generalize nf ys = vs at *
 have hm1 : us.length ≤ 549755813888 := by omega
 have hm2 : vs.length ≤ 549755813888 := by omega
 clear h hl k kl hm km hle1 hle2
 have hmk := fun W => run_makeL (P := Tryz.prog) 39 133 Tryz.underlying39 info96 ((us.length : Int) + (vs.length : Int)) (us.length + vs.length) (by omega) (by omega) W
 go_enter Tryz.func151, Tryz.ntmps151
 go_wp2_with fail
 refine HT1.out.mono ?_
 clear HT1
 rintro e w1 ⟨rfl, h1, hb1⟩
 have HB1 := Lib.hid hb1
 have H1 := Lib.hid h1
 clear h1 hb1
 go_wp2_with fail
 refine (HT2.out _ HB1.out).mono ?_
 clear HT2
 rintro e wc ⟨rfl, k1, hb2⟩
 have K1 := Lib.hid k1
 have HBc := Lib.hid (HB1.out.trans (hb2.mono HB1.out.size))
 have H1' := Lib.hid (H1.out.below hb2)
 clear k1 hb2 HB1 H1
 go_wp2
 clear hmk
 go_loopg [22] us.length (fun gg s22 wr => ∃ (i : Nat) (cs : List Int), i ≤ us.length ∧ us.length - i ≤ gg ∧ s22 = .int .i64 i ∧ cs.length ≤ us.length + vs.length ∧ us.length + vs.length ≤ cs.length ∧
  Hid (OwnN wr wc.heap.size cs) ∧ Hid (Below wc.heap.size wc wr) ∧ Hid (Lim cs) ∧ Hid (V cs = V (us.take i) * V vs) ∧ Hid (∀ j (hj : j < cs.length), i + vs.length ≤ j → cs[j] = 0))
 case atStart =>
  refine ⟨0, List.replicate (us.length + vs.length) 0, Nat.zero_le _, by omega, rfl, by simp, by simp, own_zeros _ _ _, (Below.refl _ _).alloc (Nat.le_refl _) _, Lim.zeros _, ?_, ?_⟩
  · show _ = _
    rw [V_zeros]
    simp [V]
  · intro j hj _
    simp
 case round =>
  obtain ⟨i, cs, hi, hg, rfl, hl1, hl2, HO, HB, HL, HE, HZ⟩ := hrel
  by_cases hlt : i < us.length
  · have hltz : (i : Int) < (us.length : Int) := by omega
    obtain ⟨ad, rfl, hcell⟩ := Knd.at_int H1'.out i hlt
    have b1 := H2.out.get i hlt
    have HV := Lib.hid (V_take_succ hlt)
    generalize us[i] = x at *
    have HC1 := Lib.hid hcell
    clear hcell
    go_wp2
    obtain ⟨wo, HWO⟩ : ∃ wo : World, Hid (wo = wr) := ⟨_, rfl⟩
    have HO' := Lib.hid HO.out
    go_loopg [7, 27] vs.length (fun gg s7 s27 wr => ∃ (k : Nat) (cy : Int) (ds : List Int), k ≤ vs.length ∧ vs.length - k ≤ gg ∧ s27 = .int .i64 k ∧ s7 = .int .u64 cy ∧ 0 ≤ cy ∧ cy < 4294967296 ∧ ds.length ≤ us.length + vs.length ∧ us.length + vs.length ≤ ds.length ∧
     Hid (OwnN wr wc.heap.size ds) ∧ Hid (Below wc.heap.size wc wr) ∧ Hid (Lim ds) ∧ Hid (V ds + Bp (i + k) * cy = V (us.take i) * V vs + Bp i * x * V (vs.take k)) ∧ Hid (∀ j (hj : j < ds.length), i + vs.length ≤ j → ds[j] = 0))
    case atStart =>
     exact ⟨0, 0, cs, Nat.zero_le _, by omega, rfl, rfl, by omega, by omega, hl1, hl2, HO, HB, HL, by show _ = _; rw [HE.out]; simp [V], HZ⟩
    case round =>
     clear HO HB HL HE HZ hl1 hl2 HO' HWO
     obtain ⟨k, cy, ds, hk, hgi, rfl, rfl, hcy0, hcy1, hl1, hl2, HO, HB, HL, HE, HZ⟩ := hrel
     by_cases hlk : k < vs.length
     · have hlkz : (k : Int) < (vs.length : Int) := by omega
       obtain ⟨bd, rfl, hcell⟩ := Knd.at_int K1.out k hlk
       have c2 := cell_below HB.out hcell
       have c1 := cell_below HB.out HC1.out
       have b2 := K2.out.get k hlk
       have KV := Lib.hid (V_take_succ hlk)
       have c3 := OwnN.cell HO.out (i + k) (by omega)
       have c4 := Own.frozen HO.out (i + k)
       have b3 := HL.out.get (i + k) (by omega)
       have hst := Lib.hid (fun (y : Int) => V_set (xs := ds) (i := i + k) (by omega) y)
       have hle := mul_le_max b1 b2
       generalize vs[k] = y at *
       generalize ds[i + k]'(by omega) = z at *
       clear hcell
       obtain ⟨p, hp⟩ : ∃ p, p = x * y := ⟨_, rfl⟩
       have HP := Lib.hid hp
       rw [← hp] at hle
       clear hp
       have q1 : IntKind.u64.wrap (x * y) = p := by rw [← HP.out, u64w (by omega) (by omega)]
       have q2 : IntKind.i64.wrap ((i : Int) + (k : Int)) = (i : Int) + (k : Int) := i64w (by omega) (by omega)
       have q3 : ((i : Int) + (k : Int)).toNat = i + k := by omega
       have q4 : 0 ≤ (i : Int) + (k : Int) := by omega
       have q5 : (i : Int) + (k : Int) < (us.length : Int) + (vs.length : Int) := by omega
       go_wp2
       go_quiet (fail)
       go_wp2
       go_roundg (vs.length - (k + 1))
       case measure => omega
       case rel =>
        have ht : p + z + cy = (p + z + cy) % 4294967296 + 4294967296 * ((p + z + cy) / 4294967296) := by omega
        refine ⟨k + 1, (p + z + cy) / 4294967296, ds.set (i + k) ((p + z + cy) % 4294967296), by omega, by omega, by go_num, rfl, by omega, by omega, by simpa using hl1, by simpa using hl2, ?_, ?_, HL.out.set _ (by omega) (by omega), ?_, ?_⟩
        · first | exact OwnN.set HO.out _ _ | exact OwnN.set (Own.drewN HO.out _) _ _ | exact Own.drewN (OwnN.set HO.out _ _) _
        · first | exact (below_drewN HB.out _).setCell (Nat.le_refl _) _ | exact below_drewN (HB.out.setCell (Nat.le_refl _) _) _
        · show _ = _
          rw [KV.out]
          exact mul_step (by rw [← HP.out]; exact ht) (hst.out _) HE.out
        · intro j hj hle2
          rw [List.getElem_set_ne (show i + k ≠ j by omega)]
          exact HZ.out j (by simpa using hj) hle2
     · have hlkz : ¬ (k : Int) < (vs.length : Int) := by omega
       have hkl : k = vs.length := by omega
       subst hkl
       have c3 := OwnN.cell HO.out (i + vs.length) (by omega)
       have c4 := Own.frozen HO.out (i + vs.length)
       rw [HZ.out (i + vs.length) (by omega) (Nat.le_refl _)] at c3
       have hst := Lib.hid (fun (y : Int) => V_set (xs := ds) (i := i + vs.length) (by omega) y)
       have hz := Lib.hid (HZ.out (i + vs.length) (by omega) (Nat.le_refl _))
       have q1 : (i : Int) + (vs.length : Int) < (us.length : Int) + (vs.length : Int) := by omega
       go_wp2
       go_roundg (us.length - (i + 1))
       case measure => omega
       case rel =>
        refine ⟨i + 1, ds.set (i + vs.length) cy, by omega, by omega, by go_num, by simpa using hl1, by simpa using hl2, ?_, ?_, HL.out.set _ (by omega) (by omega), ?_, ?_⟩
        · have e : cy % 4294967296 = cy := by omega
          show OwnN _ _ _
          first | exact OwnN.set HO.out _ _ | (rw [e]; exact OwnN.set HO.out _ _)
        · exact HB.out.setCell (Nat.le_refl _) _
        · show _ = _
          have h1 := hst.out cy
          rw [hz.out] at h1
          have h2 := HE.out
          rw [V_take_all (Nat.le_refl _)] at h2
          rw [h1, HV.out, Int.add_mul, ← h2, Int.sub_zero]
        · intro j hj hle2
          rw [List.getElem_set_ne (show i + vs.length ≠ j by omega)]
          exact HZ.out j (by simpa using hj) (by omega)
  · have hltz : ¬ (i : Int) < (us.length : Int) := by omega
    have hkl : Hid (i = us.length) := by show _ = _; omega
    have HE2 : Hid (V cs = V us * V vs) := by
     show _ = _
     rw [HE.out, hkl.out, V_take_all (Nat.le_refl _)]
    clear HE HZ
    go_wp2_with fail
    refine (nat_own' (some ⟨wc.heap.size, 0, none⟩) (us.length + vs.length) (us.length + vs.length) cs _ (by omega) (OwnN.row HO.out) HL.out (Nat.le_refl _) (by omega)).mono ?_
    rintro e w' ⟨A', c', rfl, g1, g2, g3⟩
    rw [HE2.out] at *
    have G2 := Lib.hid g2
    have G3 := Lib.hid (HBc.out.trans ((HB.out.trans (g3.mono HB.out.size)).mono HBc.out.size))
    clear g2 g3
    go_wp2
    go_ret
    exact ⟨A', c', rfl, g1, G2.out, G3.out⟩
theorem short_step {Q Qn R Rn a b u q r : Int} (h : R * 4294967296 + a = q * b + r) (H : Q * b + R = u) : (4294967296 * Q + q) * b + r = 4294967296 * u + a := by
 have : 4294967296 * (Q * b + R) = 4294967296 * u := by rw [H]
 grind
set_option maxHeartbeats 2000000 in
theorem nat_short (A : Option Addr) (c : Nat) (xs : List Int) (b : Int) (w : World) (h : Rn w A xs) (hl : Lim xs) (hc : xs.length ≤ c) (hm : xs.length ≤ 1099511627776) (hb0 : 0 < b) (hb1 : b < 4294967296) :
 Calls Tryz.prog 199 #[.slice A xs.length c, .int .u32 b] w fun e w' =>
  ∃ g qs r, e = .returned (.tuple #[.slice (some ⟨g, 0, none⟩) (List.length qs) (List.length qs), .int .u32 r]) ∧ qs.length = xs.length ∧ OwnN w' g qs ∧ w.heap.size ≤ g ∧ Lim qs ∧ V qs * b + r = V xs ∧ 0 ≤ r ∧ r < b ∧ Below w.heap.size w w' := by
 have H1 := Lib.hid h
 have H2 := Lib.hid hl
 clear h hl
 have hmk := fun W => run_makeL (P := Tryz.prog) 39 133 Tryz.underlying39 info96 (xs.length : Int) xs.length rfl (by omega) W
 go_enter Tryz.func199, Tryz.ntmps199
 go_wp2
 clear hmk
 go_loopg [7, 8] xs.length (fun gg s7 s8 wr => ∃ (z r : Int) (qs : List Int), -1 ≤ z ∧ z < (xs.length : Int) ∧ z + 1 ≤ gg ∧ s8 = .int .i64 z ∧ s7 = .int .u32 r ∧ 0 ≤ r ∧ r < b ∧ qs.length ≤ xs.length ∧ xs.length ≤ qs.length ∧
  Hid (OwnN wr w.heap.size qs) ∧ Hid (Below w.heap.size w wr) ∧ Hid (Lim qs) ∧ Hid (V (qs.drop (z + 1).toNat) * b + r = V (xs.drop (z + 1).toNat)))
 case atStart =>
  refine ⟨(xs.length : Int) - 1, 0, List.replicate xs.length 0, by omega, by omega, by omega, rfl, rfl, by omega, by omega, by simp, by simp, own_zeros _ _ _, (Below.refl _ _).alloc (Nat.le_refl _) _, Lim.zeros _, ?_⟩
  show _ = _
  rw [show ((xs.length : Int) - 1 + 1).toNat = xs.length by omega, List.drop_of_length_le (by simp), List.drop_of_length_le (Nat.le_refl _)]
  simp [V]
 case round =>
  obtain ⟨z, r, qs, hz1, hz2, hg, rfl, rfl, hr0, hr1, hl1, hl2, HO, HB, HL, HE⟩ := hrel
  by_cases h0 : 0 ≤ z
  · obtain ⟨j, rfl⟩ := Int.eq_ofNat_of_zero_le h0
    have hj : j < xs.length := by omega
    obtain ⟨ad, rfl, hcell⟩ := Knd.at_int H1.out j hj
    have c1 := cell_below HB.out hcell
    have b1 := H2.out.get j hj
    have HV := Lib.hid (V_drop hj)
    have c3 := OwnN.cell HO.out j (by omega)
    have c4 := Own.frozen HO.out j
    have hst : Hid (∀ y : Int, V ((qs.set j y).drop j) = y + 4294967296 * V (qs.drop (j + 1))) := fun y => by
     rw [V_drop (by simp; omega), List.getElem_set_self, List.drop_set_of_lt (by omega)]
    generalize xs[j] = x at *
    generalize qs[j]'(by omega) = u at *
    clear hcell
    have HD := Lib.hid (bits_Div32 r x b wr ⟨hr0, hr1⟩ b1 hb1)
    have q1 : 0 ≤ (r * 4294967296 + x) / b := Int.ediv_nonneg (by omega) (by omega)
    have q2 : (r * 4294967296 + x) / b < 4294967296 := by
     rw [Int.ediv_lt_iff_lt_mul hb0]
     have : (r + 1) * 4294967296 ≤ b * 4294967296 := by omega
     omega
    have q3 : 0 ≤ (r * 4294967296 + x) % b := Int.emod_nonneg _ (by omega)
    have q4 : (r * 4294967296 + x) % b < b := Int.emod_lt_of_pos _ (by omega)
    have hqr : Hid (r * 4294967296 + x = (r * 4294967296 + x) / b * b + (r * 4294967296 + x) % b) := by
     show _ = _
     have := Int.mul_ediv_add_emod (r * 4294967296 + x) b
     rw [Int.mul_comm] at this
     omega
    generalize (r * 4294967296 + x) / b = q at *
    generalize (r * 4294967296 + x) % b = r' at *
    go_wp2_with fail
    refine HD.out.mono ?_
    clear HD
    rintro e w2 ⟨rfl, hb2⟩
    have c3' := cell_below hb2 c3
    have c4' : w2.frozen? ⟨w.heap.size, j, none⟩ = false := (hb2.frozen (p := ⟨w.heap.size, j, none⟩) (HO.out.lt)).trans c4
    have HO2 := Lib.hid (Own.below HO.out hb2 HO.out.lt)
    have HB2 := Lib.hid (HB.out.trans (hb2.mono HB.out.size))
    clear hb2 c3 c4 c1
    go_wp2
    go_roundg j
    case measure => omega
    case rel =>
     refine ⟨(j : Int) - 1, r', qs.set j q, by omega, by omega, by omega, rfl, rfl, q3, q4, by simpa using hl1, by simpa using hl2, OwnN.set HO2.out _ _, HB2.out.setCell (Nat.le_refl _) _, HL.out.set _ q1 q2, ?_⟩
     show _ = _
     rw [show ((j : Int) - 1 + 1).toNat = j by omega, hst.out, HV.out]
     have h1 := HE.out
     rw [show ((j : Int) + 1).toNat = j + 1 by omega] at h1
     have := short_step (Qn := 0) (Rn := 0) hqr.out h1
     rw [Int.add_comm q, Int.add_comm x]
     exact this
  · have hz : Hid ((z + 1).toNat = 0) := by show _ = _; omega
    have HE2 : Hid (V qs * b + r = V xs) := by
     show _ = _
     have := HE.out
     rwa [hz.out, List.drop_zero, List.drop_zero] at this
    have hlen : Hid (qs.length = xs.length) := by show _ = _; omega
    have hl3 := hlen.out
    go_wp2
    go_ret2
    exact ⟨w.heap.size, qs, r, ret_sl hl3.symm, hl3, HO.out, Nat.le_refl _, HL.out, HE2.out, hr0, hr1, HB.out⟩
structure Kn (u0 u1 u2 v1 v2 U W : Int) : Prop where
 bu0 : 0 ≤ u0 ∧ u0 < 4294967296
 bu1 : 0 ≤ u1 ∧ u1 < 4294967296
 bu2 : 0 ≤ u2 ∧ u2 < 4294967296
 bv1 : 2147483648 ≤ v1 ∧ v1 < 4294967296
 bv2 : 0 ≤ v2 ∧ v2 < 4294967296
 parts : ∃ M ul vl : Int, 0 < M ∧ 0 ≤ ul ∧ ul < M ∧ 0 ≤ vl ∧ vl < M ∧ U = ((u0 * 4294967296 + u1) * 4294967296 + u2) * M + ul ∧ W = (v1 * 4294967296 + v2) * M + vl
 below : U < 4294967296 * W
theorem mul_mono {a b c : Int} (h : a ≤ b) (hc : 0 ≤ c) : a * c ≤ b * c := Int.mul_le_mul_of_nonneg_right h hc
theorem mul_mono' {a b c : Int} (h : a ≤ b) (hc : 0 ≤ c) : c * a ≤ c * b := Int.mul_le_mul_of_nonneg_left h hc
def KnI (u0 u1 v1 U W g r : Int) : Prop := 0 ≤ g ∧ g ≤ 4294967297 ∧ 0 ≤ r ∧ r < 4294967296 ∧ g * v1 + r = u0 * 4294967296 + u1 ∧ U < (g + 1) * W
def KnQ (u0 u1 u2 v1 v2 U W g : Int) : Prop := 0 ≤ g ∧ g < 4294967296 ∧ U < (g + 1) * W ∧ g * (v1 * 4294967296 + v2) ≤ (u0 * 4294967296 + u1) * 4294967296 + u2
variable {u0 u1 u2 v1 v2 U W g r : Int}
theorem Kn.u0_le (k : Kn u0 u1 u2 v1 v2 U W) : u0 ≤ v1 := by
 obtain ⟨M, ul, vl, hM, h1, h2, h3, h4, hU, hW⟩ := k.parts
 have hb := k.below
 rw [hU, hW] at hb
 have a := k.bu1; have b := k.bu2; have c := k.bv2; have d := k.bv1
 apply Int.le_of_not_gt
 intro hgt
 have e1 : ((v1 + 1) * 4294967296 * 4294967296) * M ≤ ((u0 * 4294967296 + u1) * 4294967296 + u2) * M := mul_mono (by omega) (by omega)
 have e2 : (v1 * 4294967296 + v2 + 1) * M ≤ ((v1 + 1) * 4294967296) * M := mul_mono (by omega) (by omega)
 have e3 : (v1 * 4294967296 + v2 + 1) * M = (v1 * 4294967296 + v2) * M + M := by grind
 have e4 : ((v1 + 1) * 4294967296 * 4294967296) * M = 4294967296 * (((v1 + 1) * 4294967296) * M) := by grind
 omega
theorem Kn.init (k : Kn u0 u1 u2 v1 v2 U W) : KnI u0 u1 v1 U W ((u0 * 4294967296 + u1) / v1) ((u0 * 4294967296 + u1) % v1) := by
 have hle := k.u0_le
 obtain ⟨M, ul, vl, hM, h1, h2, h3, h4, hU, hW⟩ := k.parts
 have a := k.bu0; have b := k.bu1; have c := k.bu2; have d := k.bv1; have e := k.bv2
 have hv : 0 < v1 := by omega
 have t0 : 0 ≤ u0 * 4294967296 + u1 := by omega
 have g0 := Int.ediv_nonneg t0 (show 0 ≤ v1 by omega)
 have r0 := Int.emod_nonneg (u0 * 4294967296 + u1) (show v1 ≠ 0 by omega)
 have r1 := Int.emod_lt_of_pos (u0 * 4294967296 + u1) hv
 have ed := Int.mul_ediv_add_emod (u0 * 4294967296 + u1) v1
 rw [Int.mul_comm] at ed
 generalize (u0 * 4294967296 + u1) / v1 = g at *
 generalize (u0 * 4294967296 + u1) % v1 = r at *
 refine ⟨g0, ?_, r0, by omega, ed, ?_⟩
 · apply Int.le_of_not_gt
   intro hgt
   have e1 : 4294967298 * v1 ≤ g * v1 := mul_mono (by omega) (by omega)
   omega
 · rw [hU, hW]
   have e1 : (u0 * 4294967296 + u1 + 1) ≤ (g + 1) * v1 := by
    have : (g + 1) * v1 = g * v1 + v1 := by grind
    omega
   have e2 : (u0 * 4294967296 + u1 + 1) * (4294967296 * M) ≤ ((g + 1) * v1) * (4294967296 * M) := mul_mono e1 (by omega)
   have e3 : ((u0 * 4294967296 + u1) * 4294967296 + u2 + 1) * M ≤ ((u0 * 4294967296 + u1 + 1) * 4294967296) * M := mul_mono (by omega) (by omega)
   have e4 : 0 ≤ (g + 1) * (v2 * M + vl) := Int.mul_nonneg (by omega) (by have := Int.mul_nonneg e.1 (Int.le_of_lt hM); omega)
   have e5 : (g + 1) * ((v1 * 4294967296 + v2) * M + vl) = ((g + 1) * v1) * (4294967296 * M) + (g + 1) * (v2 * M + vl) := by grind
   have e6 : ((u0 * 4294967296 + u1) * 4294967296 + u2 + 1) * M = ((u0 * 4294967296 + u1) * 4294967296 + u2) * M + M := by grind
   have e7 : ((u0 * 4294967296 + u1 + 1) * 4294967296) * M = (u0 * 4294967296 + u1 + 1) * (4294967296 * M) := by grind
   omega
theorem Kn.step (k : Kn u0 u1 u2 v1 v2 U W) (h : KnI u0 u1 v1 U W g r) (ht : 4294967296 ≤ g ∨ (g < 4294967296 ∧ r * 4294967296 + u2 < g * v2)) : 1 ≤ g ∧ U < g * W := by
 obtain ⟨M, ul, vl, hM, h1, h2, h3, h4, hU, hW⟩ := k.parts
 obtain ⟨g0, g1, r0, r1, he, hlt⟩ := h
 have hb := k.below
 have a := k.bu0; have b := k.bu1; have c := k.bu2; have d := k.bv1; have e := k.bv2
 have hW0 : 0 ≤ W := by rw [hW]; have := Int.mul_nonneg (show 0 ≤ v1 * 4294967296 + v2 by omega) (Int.le_of_lt hM); omega
 rcases ht with ht | ⟨ht, ht2⟩
 · refine ⟨by omega, ?_⟩
   have := mul_mono (c := W) ht hW0
   omega
 · have g1' : 1 ≤ g := by
    apply Int.le_of_not_gt
    intro hg
    have : g = 0 := by omega
    subst this
    omega
   refine ⟨g1', ?_⟩
   have e1 : g * (v1 * 4294967296 + v2) = (u0 * 4294967296 + u1 - r) * 4294967296 + g * v2 := by
    have : g * v1 = u0 * 4294967296 + u1 - r := by omega
    rw [← this]; grind
   have e2 : (u0 * 4294967296 + u1) * 4294967296 + u2 + 1 ≤ g * (v1 * 4294967296 + v2) := by rw [e1]; omega
   have e3 := mul_mono (c := M) e2 (by omega)
   have e4 : ((u0 * 4294967296 + u1) * 4294967296 + u2 + 1) * M = ((u0 * 4294967296 + u1) * 4294967296 + u2) * M + M := by grind
   have e5 : 0 ≤ g * vl := Int.mul_nonneg g0 h3
   have e6 : g * W = g * (v1 * 4294967296 + v2) * M + g * vl := by rw [hW]; grind
   omega
theorem KnI.next (k : Kn u0 u1 u2 v1 v2 U W) (h : KnI u0 u1 v1 U W g r) (hs : 1 ≤ g ∧ U < g * W) (hr : r + v1 < 4294967296) : KnI u0 u1 v1 U W (g - 1) (r + v1) := by
 obtain ⟨g0, g1, r0, r1, he, hlt⟩ := h
 have d := k.bv1
 refine ⟨by omega, by omega, by omega, hr, ?_, ?_⟩
 · have : (g - 1) * v1 = g * v1 - v1 := by grind
   omega
 · rw [show g - 1 + 1 = g by omega]; exact hs.2
theorem KnI.broke (k : Kn u0 u1 u2 v1 v2 U W) (h : KnI u0 u1 v1 U W g r) (hs : 1 ≤ g ∧ U < g * W) (hr : 4294967296 ≤ r + v1) : KnQ u0 u1 u2 v1 v2 U W (g - 1) := by
 have hle := k.u0_le
 obtain ⟨g0, g1, r0, r1, he, hlt⟩ := h
 have a := k.bu0; have b := k.bu1; have c := k.bu2; have d := k.bv1; have e := k.bv2
 have e1 : (g - 1) * v1 = g * v1 - v1 := by grind
 have hg : g - 1 < 4294967296 := by
  apply Int.lt_of_not_ge
  intro hge
  have := mul_mono (c := v1) hge (by omega)
  omega
 refine ⟨by omega, hg, by rw [show g - 1 + 1 = g by omega]; exact hs.2, ?_⟩
 have e2 : (g - 1) * (v1 * 4294967296 + v2) = ((g - 1) * v1) * 4294967296 + (g - 1) * v2 := by grind
 have e3 : (g - 1) * v2 ≤ 4294967295 * v2 := mul_mono (by omega) e.1
 omega
theorem KnI.stop (k : Kn u0 u1 u2 v1 v2 U W) (h : KnI u0 u1 v1 U W g r) (hg : g < 4294967296) (ht : g * v2 ≤ r * 4294967296 + u2) : KnQ u0 u1 u2 v1 v2 U W g := by
 obtain ⟨g0, g1, r0, r1, he, hlt⟩ := h
 refine ⟨g0, hg, hlt, ?_⟩
 have : g * (v1 * 4294967296 + v2) = (g * v1) * 4294967296 + g * v2 := by grind
 omega
theorem KnQ.near (k : Kn u0 u1 u2 v1 v2 U W) (h : KnQ u0 u1 u2 v1 v2 U W g) : g * W < U + W ∧ U < (g + 1) * W := by
 obtain ⟨M, ul, vl, hM, h1, h2, h3, h4, hU, hW⟩ := k.parts
 obtain ⟨g0, g1, hlt, hq⟩ := h
 have d := k.bv1; have e := k.bv2
 refine ⟨?_, hlt⟩
 have e1 : g * W = g * (v1 * 4294967296 + v2) * M + g * vl := by rw [hW]; grind
 have e2 := mul_mono (c := M) hq (by omega)
 have e3 : g * vl ≤ 4294967296 * vl := mul_mono (by omega) h3
 have e4 : 4294967296 * M ≤ (v1 * 4294967296 + v2) * M := mul_mono (by omega) (by omega)
 omega
theorem ret_slc {A : Option Addr} {n m : Nat} (h : n = m) : Ending.returned (.slice A n n) = .returned (.slice A m m) := by rw [h]
theorem pow_split {up : Nat} (h : up ≤ 32) : (2 : Int) ^ up * 2 ^ (32 - up) = 4294967296 := by
 rw [← Int.pow_add, show up + (32 - up) = 32 by omega]; rfl
theorem pow2_pos (n : Nat) : (0 : Int) < 2 ^ n := Int.pow_pos (by decide)
theorem shr_eq {x : Int} {up : Nat} (h : up ≤ 32) : x / 2 ^ (32 - up) = x * 2 ^ up / 4294967296 := by
 rw [← pow_split h, Int.mul_comm x, Int.mul_ediv_mul_of_pos _ _ (pow2_pos up)]
theorem or_low {z x : Int} {up : Nat} (hup : up ≤ 32) (hz0 : 0 ≤ z) (hz1 : z < 2 ^ up) (hx : 0 ≤ x ∧ x < 4294967296) :
 bits .or .u32 z (x * 2 ^ up % 4294967296) = z + x * 2 ^ up % 4294967296 ∧ z + x * 2 ^ up % 4294967296 < 4294967296 := by
 have hp := pow_split hup
 have hs := pow2_pos up
 have hs2 := pow2_pos (32 - up)
 have e : x * 2 ^ up % 4294967296 = (x % 2 ^ (32 - up)) * 2 ^ up := by
  rw [← hp, Int.mul_comm x, Int.mul_emod_mul_of_pos _ _ hs, Int.mul_comm]
 have h0 := Int.emod_nonneg x (show (2 : Int) ^ (32 - up) ≠ 0 by omega)
 have h1 := Int.emod_lt_of_pos x hs2
 have h2 : (x % 2 ^ (32 - up) + 1) * 2 ^ up ≤ 2 ^ (32 - up) * 2 ^ up := mul_mono (by omega) (by omega)
 have h3 : (2 : Int) ^ (32 - up) * 2 ^ up = 4294967296 := by rw [Int.mul_comm]; exact hp
 have h4 : (x % 2 ^ (32 - up) + 1) * 2 ^ up = (x % 2 ^ (32 - up)) * 2 ^ up + 2 ^ up := by grind
 have h5 : 0 ≤ (x % 2 ^ (32 - up)) * 2 ^ up := Int.mul_nonneg h0 (by omega)
 have h6 : (2 : Int) ^ up ≤ 4294967296 := by
  have : (2 : Int) ^ up * 1 ≤ 2 ^ up * 2 ^ (32 - up) := mul_mono' (by omega) (by omega)
  omega
 rw [e]
 refine ⟨?_, by omega⟩
 rw [u32_or _ _ hz0 (by omega) h5 (by omega)]
 obtain ⟨m, hm⟩ := Int.eq_ofNat_of_zero_le h0
 obtain ⟨n, rfl⟩ := Int.eq_ofNat_of_zero_le hz0
 rw [hm]
 have e2 : ((m : Int) * 2 ^ up).toNat = m * 2 ^ up := by
  rw [show ((m : Int) * 2 ^ up) = ((m * 2 ^ up : Nat) : Int) by simp]; exact Int.toNat_natCast _
 rw [e2, Nat.or_comm, nat_join up _ _ (Nat.mul_mod_left _ _) (by simp only [Int.toNat_natCast]; exact_mod_cast hz1)]
 simp
 omega
theorem moved_step {i : Nat} {s x z d : Int} {a b X : Int} (hd : d = x * s) (H : a + Bp i * z = X * s) (hb : b = a + Bp i * (z + d % 4294967296)) : b + Bp (i + 1) * (d / 4294967296) = (X + Bp i * x) * s := by
 rw [Bp_succ, hb]
 have h1 : d = 4294967296 * (d / 4294967296) + d % 4294967296 := (Int.mul_ediv_add_emod d 4294967296).symm
 generalize d / 4294967296 = q at *
 generalize d % 4294967296 = r at *
 have : Bp i * d = Bp i * (4294967296 * q + r) := by rw [← h1]
 rw [hd] at this
 grind
set_option maxHeartbeats 2000000 in
theorem nat_moved (A : Option Addr) (c : Nat) (xs : List Int) (up : Nat) (w : World) (h : Rn w A xs) (hl : Lim xs) (hc : xs.length ≤ c) (hm : xs.length ≤ 549755813888) (hup : up < 32) :
 Calls Tryz.prog 256 #[.slice A xs.length c, .int .i64 (up : Int)] w fun e w' =>
  ∃ g cs, e = .returned (.slice (some ⟨g, 0, none⟩) (List.length cs) (List.length cs)) ∧ cs.length = xs.length + 1 ∧ OwnN w' g cs ∧ w.heap.size ≤ g ∧ Lim cs ∧ V cs = V xs * 2 ^ up ∧ Below w.heap.size w w' := by
 have H1 := Lib.hid h
 have H2 := Lib.hid hl
 clear h hl
 have hmk := fun W => run_makeL (P := Tryz.prog) 39 133 Tryz.underlying39 info96 ((xs.length : Int) + 1) (xs.length + 1) (by omega) (by omega) W
 go_enter Tryz.func256, Tryz.ntmps256
 go_wp2
 clear hmk
 go_loopg [13] xs.length (fun gg s13 wr => ∃ (i : Nat) (cs : List Int), i ≤ xs.length ∧ xs.length - i ≤ gg ∧ s13 = .int .i64 i ∧ cs.length ≤ xs.length + 1 ∧ xs.length + 1 ≤ cs.length ∧
  Hid (OwnN wr w.heap.size cs) ∧ Hid (Below w.heap.size w wr) ∧ Hid (Lim cs) ∧ Hid (V (cs.take i) + Bp i * cs.getD i 0 = V (xs.take i) * 2 ^ up) ∧ Hid (cs.getD i 0 < 2 ^ up) ∧ Hid (∀ j (hj : j < cs.length), i < j → cs[j] = 0))
 case atStart =>
  refine ⟨0, List.replicate (xs.length + 1) 0, Nat.zero_le _, by omega, rfl, by simp, by simp, own_zeros _ _ _, (Below.refl _ _).alloc (Nat.le_refl _) _, Lim.zeros _, ?_, ?_, ?_⟩
  · show _ = _
    simp [V]
  · show _ < _
    simp
    exact Int.pow_pos (by decide)
  · intro j hj _
    simp
 case round =>
  obtain ⟨i, cs, hi, hg, rfl, hl1, hl2, HO, HB, HL, HE, HS, HZ⟩ := hrel
  by_cases hlt : i < xs.length
  · have hltz : (i : Int) < (xs.length : Int) := by omega
    obtain ⟨ad, rfl, hcell⟩ := Knd.at_int H1.out i hlt
    have c1 := cell_below HB.out hcell
    have hcell0 := hcell
    have b1 := H2.out.get i hlt
    have HV := Lib.hid (V_take_succ hlt)
    have c3 := OwnN.cell HO.out i (by omega)
    have c4 := Own.frozen HO.out i
    have b3 := HL.out.get i (by omega)
    have e3 : Hid (cs.getD i 0 = cs[i]) := by show _ = _; simp [List.getD, List.getElem?_eq_getElem (show i < cs.length by omega)]
    generalize xs[i] = x at *
    generalize cs[i]'(by omega) = z at *
    clear hcell
    go_wp2
    go_region
    have hz := Lib.hid (or_low (z := z) (x := x) (Nat.le_of_lt hup) b3.1 (by rw [← e3.out]; exact HS.out) b1)
    rw [hz.out.1]
    have hz2 := hz.out.2
    have hz3 := Int.emod_nonneg (x * 2 ^ up) (show (4294967296 : Int) ≠ 0 by decide)
    have hsh := Lib.hid (shr_eq (x := x) (Nat.le_of_lt hup))
    have HO1 := Lib.hid (OwnN.set HO.out i (z + x * 2 ^ up % 4294967296))
    have d3 := OwnN.cell HO1.out (i + 1) (by simp; omega)
    have d4 := Own.frozen HO1.out (i + 1)
    rw [List.getElem_set_ne (by omega), HZ.out (i + 1) (by omega) (by omega)] at d3
    obtain ⟨w2, hw2⟩ : ∃ w2, w2 = wr.setCell ⟨w.heap.size, i, none⟩ (.int .u32 (z + x * 2 ^ up % 4294967296)) := ⟨_, rfl⟩
    have HB1 := Lib.hid (HB.out.setCell (p := ⟨w.heap.size, i, none⟩) (Nat.le_refl _) (.int .u32 (z + x * 2 ^ up % 4294967296)))
    have c1' := cell_below HB1.out hcell0
    rw [← hw2] at HO1 d3 d4 HB1 c1' ⊢
    clear hw2 c1 c3 c4
    go_wp2
    go_roundg (xs.length - (i + 1))
    case measure => omega
    case rel =>
     have hp := pow_split (Nat.le_of_lt hup)
     have hs0 := pow2_pos up
     have hd0 : 0 ≤ x * 2 ^ up := Int.mul_nonneg b1.1 (by omega)
     have hd1 : x * 2 ^ up / 4294967296 < 2 ^ up := by
      rw [Int.ediv_lt_iff_lt_mul (by decide), Int.mul_comm]
      exact Int.mul_lt_mul_of_pos_left b1.2 hs0
     have hd2 : 0 ≤ x * 2 ^ up / 4294967296 := Int.ediv_nonneg hd0 (by decide)
     have hs1 : (2 : Int) ^ up ≤ 4294967296 := by
      have : (2 : Int) ^ up * 1 ≤ 2 ^ up * 2 ^ (32 - up) := mul_mono' (by have := pow2_pos (32 - up); omega) (by omega)
      omega
     have e1 : x / 2 ^ (32 - up) % 4294967296 = x * 2 ^ up / 4294967296 := by rw [hsh.out]; exact Int.emod_eq_of_lt hd2 (by omega)
     have hz3 : 0 ≤ x * 2 ^ up % 4294967296 := Int.emod_nonneg _ (by decide)
     have hi1 : i + 1 < (cs.set i (z + x * 2 ^ up % 4294967296)).length := by simp; omega
     refine ⟨i + 1, (cs.set i (z + x * 2 ^ up % 4294967296)).set (i + 1) (x * 2 ^ up / 4294967296), by omega, by omega, by go_num, by simpa using hl1, by simpa using hl2, ?_, ?_, (HL.out.set _ (by omega) hz.out.2).set _ hd2 (by omega), ?_, ?_, ?_⟩
     · show OwnN _ _ _
       rw [e1]
       exact OwnN.set HO1.out _ _
     · exact (HB1.out.setCell (p := ⟨w.heap.size, i + 1, none⟩) (Nat.le_refl _) _).drew
     · show _ = _
       rw [HV.out, List.take_set_of_le (Nat.le_refl _)]
       have e4 : ((cs.set i (z + x * 2 ^ up % 4294967296)).set (i + 1) (x * 2 ^ up / 4294967296)).getD (i + 1) 0 = x * 2 ^ up / 4294967296 := by
        rw [List.getD, List.getElem?_set_self hi1]; rfl
       rw [e4]
       have H := HE.out
       rw [e3.out] at H
       refine moved_step rfl H ?_
       rw [V_take_set_succ (by omega)]
     · show _ < _
       rw [List.getD, List.getElem?_set_self hi1]
       exact hd1
     · intro j hj hle
       rw [List.getElem_set_ne (by omega), List.getElem_set_ne (by omega)]
       exact HZ.out j (by simpa using hj) (by omega)
  · have hltz : ¬ (i : Int) < (xs.length : Int) := by omega
    have hkl : Hid (i = xs.length) := by show _ = _; omega
    have hlen : Hid (cs.length = xs.length + 1) := by show _ = _; omega
    have HE2 : Hid (V cs = V xs * 2 ^ up) := by
     show _ = _
     have h1 := HE.out
     rw [← V_take_getD, hkl.out, V_take_all (by omega), V_take_all (Nat.le_refl _)] at h1
     exact h1
    clear HE HZ HS
    go_wp2
    go_ret
    exact ⟨w.heap.size, cs, ret_slc hlen.out.symm, hlen.out, HO.out, Nat.le_refl _, HL.out, HE2.out, HB.out⟩
end Go.Proofs.YtidgpkccjcddgaaGreatDoor.F

/- The walks of package nat, eighth part: Gcd, Bits, Of. Conditions: the limbs are limbs, lengths below 2^39. -/
import Derived.Test.YtchdoignomidjaaNatg
set_option linter.unusedVariables false
set_option linter.unusedSimpArgs false
namespace Go.Proofs.Ytchdoignomidjaa.F
open Go.RowKit Go.Shelf

theorem modn (x y : Nat) : ((x : Int) % (y : Int)).toNat = x % y := by rw [← Int.natCast_emod, Int.toNat_natCast]
theorem Vn (x : Nat) : V (dg x) = (x : Int) := V_dg x

set_option maxHeartbeats 4000000 in
theorem nat_Gcd (A : Option Addr) (c : Nat) (xs : List Int) (B : Option Addr) (d : Nat) (ys : List Int) (w : World) (h : Rn w A xs) (hl : Lim xs) (hc : xs.length ≤ c) (hm : xs.length ≤ 549755813888)
    (k : Rn w B ys) (kl : Lim ys) (kc : ys.length ≤ d) (km : ys.length ≤ 549755813888) :
    Calls Try.prog 82 #[.slice A xs.length c, .slice B ys.length d] w fun e w' => Told w ((Nat.gcd (V xs).toNat (V ys).toNat : Nat) : Int) e w' := by
  have HO1 := Lib.hid (nat_own' A xs.length c xs w rfl h hl hc (by omega))
  have HO2 := Lib.hid (fun (W : World) (hb : Below w.heap.size w W) => nat_own' B ys.length d ys W rfl (k.below hb) kl kc (by omega))
  have l1 : (dg (V xs).toNat).length ≤ 549755813888 := Nat.le_trans (nf_len hl) hm
  have l2 : (dg (V ys).toNat).length ≤ 549755813888 := Nat.le_trans (nf_len kl) km
  clear h hl k kl hm km hc kc
  unfold Told at HO1 HO2
  generalize (V xs).toNat = X at HO1 l1 ⊢
  generalize (V ys).toNat = Y at HO2 l2 ⊢
  go_enter Try.func82, Try.ntmps82
  go_wp2_with fail
  refine HO1.out.mono ?_
  clear HO1
  rintro e w1 ⟨A1, c1, rfl, g1, g2, g3⟩
  have HB1 := Lib.hid g3
  have G2 := Lib.hid g2
  clear g2 g3
  go_wp2_with fail
  refine (HO2.out _ HB1.out).mono ?_
  clear HO2
  rintro e w2 ⟨A2, c2, rfl, g4, g5, g6⟩
  have HB2 := Lib.hid (HB1.out.trans (g6.mono HB1.out.size))
  have G5 := Lib.hid g5
  have G2' := Lib.hid (G2.out.below g6)
  clear g5 g6 HB1 G2
  go_wp2
  go_loopg [0, 1] (Y + 1) (fun gg s0 s1 wr => ∃ (x y : Nat) (A : Option Addr) (c : Nat) (B : Option Addr) (d : Nat), y < gg ∧ s0 = .slice A (dg x).length c ∧ s1 = .slice B (dg y).length d ∧ (dg x).length ≤ 549755813888 ∧ (dg y).length ≤ 549755813888 ∧ (dg x).length ≤ c ∧ (dg y).length ≤ d ∧
    Hid (Rn wr A (dg x)) ∧ Hid (Rn wr B (dg y)) ∧ Hid (Below w.heap.size w wr) ∧ Hid (Nat.gcd x y = Nat.gcd X Y))
  case atStart => exact ⟨X, Y, A1, c1, A2, c2, by omega, rfl, rfl, l1, l2, g1, g4, G2', G5, HB2, rfl⟩
  case round =>
    clear g1 g4 G2' G5 HB2 l1 l2
    obtain ⟨x, y, A, c, B, d, hg, rfl, rfl, l1, l2, hc, hd, HX, HY, HB, HG⟩ := hrel
    by_cases hy : y = 0
    · subst hy
      have hgx : Hid (Nat.gcd X Y = x) := by show _ = _; rw [← HG.out]; exact Nat.gcd_zero_right x
      have e0 : dg 0 = [] := dg_zero
      rw [e0] at *
      clear HG HY
      go_wp2
      go_ret
      unfold Told
      rw [hgx.out]
      exact ⟨A, c, by simp, by simpa using hc, by simpa using HX.out, HB.out⟩
    · have hpos : 0 < (dg y).length := by
        rcases Nat.eq_zero_or_pos (dg y).length with h0 | h0
        · exact absurd (dg_eq_nil.1 (List.length_eq_zero_iff.1 h0)) hy
        · exact h0
      have HD := Lib.hid (nat_Div A c (dg x) B d (dg y) wr HX.out (Lim_dg x) hc l1 HY.out (Lim_dg y) hd l2 (by rw [Vn]; omega))
      unfold ToldDiv at HD
      rw [Vn, Vn, modn] at HD
      have HN : Hid (Nat.gcd y (x % y) = Nat.gcd X Y) := by show _ = _; rw [← HG.out, Nat.gcd_comm x y, Nat.gcd_rec y x, Nat.gcd_comm]
      have hlt : x % y < y := Nat.mod_lt _ (by omega)
      have l3 : (dg (x % y)).length ≤ 549755813888 := Nat.le_trans (dg_length_mono (Nat.le_of_lt hlt)) l2
      generalize x % y = r at *
      clear HG hy
      go_wp2_with fail
      refine HD.out.mono ?_
      clear HD
      rintro e w3 ⟨A3, c3, B3, d3, rfl, q1, q2, q3, q4, q5⟩
      have Q4 := Lib.hid q4
      have HY3 := Lib.hid (HY.out.below q5)
      have HB3 := Lib.hid (HB.out.trans (q5.mono HB.out.size))
      clear q3 q4 q5 q1
      go_wp2
      go_roundg y
      case measure => omega
      case rel => exact ⟨y, r, B, d, B3, d3, hlt, rfl, rfl, l2, l3, hd, q2, HY3, Q4, HB3, HN⟩

set_option maxHeartbeats 1000000 in
theorem nat_Bits (A : Option Addr) (c : Nat) (xs : List Int) (w : World) (h : Rn w A xs) (hl : Lim xs) (hc : xs.length ≤ c) (hm : xs.length ≤ 549755813888) :
    Calls Try.prog 100 #[.slice A xs.length c] w fun e w' => ∃ b : Int, e = .returned (.int .i64 b) ∧ 0 ≤ b ∧ (b = 0 ↔ V xs = 0) ∧ Below w.heap.size w w' := by
  have HT := Lib.hid (nat_trim A c xs w h hl hc (by omega))
  have l1 := nf_len hl
  have L1 := Lib.hid (Lim_nf xs)
  have N1 := Lib.hid (show Nrm (nf xs) from Nrm_dg _)
  rw [← V_nf hl]
  generalize nf xs = us at *
  have hlu : us.length ≤ 549755813888 := by omega
  clear h hl hm hc l1
  by_cases h0 : us = []
  · subst h0
    go_enter Try.func100, Try.ntmps100
    go_wp2_with fail
    refine HT.out.mono ?_
    clear HT
    rintro e w1 ⟨rfl, h1, hb1⟩
    have HB := Lib.hid hb1
    clear h1 hb1
    go_wp2
    go_ret
    exact ⟨0, rfl, by omega, by simp [V], HB.out⟩
  · obtain ⟨n, hn⟩ : ∃ n, us.length = n + 1 := ⟨us.length - 1, by have := List.length_pos_iff.2 h0; omega⟩
    have htop : 0 < us[n]'(by omega) := by
      have h2 := N1.out h0
      rw [List.getLast_eq_getElem] at h2
      have h3 := (L1.out.get n (by omega)).1
      have h4 : us[us.length - 1]'(by omega) = us[n]'(by omega) := by congr 1; omega
      rw [h4] at h2
      omega
    have htl := (L1.out.get n (by omega)).2
    have hV : Hid (V us ≠ 0) := by
      show _ ≠ _
      have := V_pos_of_ne L1.out (i := n) (by omega) (by omega)
      have := Bp_pos n
      omega
    have hcell : Hid (∀ W, Rn W A us → ∃ ad, A = some ad ∧ W.cell? (ad.add n) = some (.int .u32 (us[n]'(by omega)))) := fun W hW => Knd.at_int hW n (by omega)
    generalize us[n]'(by omega) = t at htop htl hcell
    have hbl := bitLen_bounds (x := t.toNat) (by omega) (by omega)
    have hb1 := hbl.1
    have hb2 := hbl.2.1
    have HLN := Lib.hid (fun W => bits_Len32 t W (by omega) (by omega))
    clear h0
    rw [hn] at HT hlu
    have hbp : 0 < Lib.bitLen t.toNat := by
      rcases Nat.eq_zero_or_pos (Lib.bitLen t.toNat) with h9 | h9
      · rw [h9] at hbl; have := hbl.2.2; omega
      · exact h9
    clear hbl
    generalize Lib.bitLen t.toNat = bl at *
    have Hn := Lib.hid hn
    clear hn
    go_enter Try.func100, Try.ntmps100
    go_wp2_with fail
    refine HT.out.mono ?_
    clear HT
    rintro e w1 ⟨rfl, h1, hb3⟩
    have HB := Lib.hid hb3
    obtain ⟨ad, rfl, hc1⟩ := hcell.out w1 h1
    clear h1 hb3 hcell
    have hc2 : n ≠ 0 → w1.cell? ⟨ad.block, ad.off + n, none⟩ = some (.int .u32 t) := fun hne => by rw [← hc1]; simp [Addr.add, hne]
    have HC2 := Lib.hid hc2
    clear hc2
    go_wp2_with fail
    refine (HLN.out w1).mono ?_
    clear HLN
    rintro e w2 ⟨rfl, rfl⟩
    go_wp2
    go_ret
    refine ⟨_, rfl, by omega, ?_, HB.out⟩
    constructor
    · intro hh; omega
    · intro hh; exact absurd hh hV.out

theorem Rn.two {w : World} {g : Nat} {x y : Int} (h : w.cell? ⟨g, 0, none⟩ = some (.int .u32 x)) (h' : w.cell? ⟨g, 1, none⟩ = some (.int .u32 y)) : Rn w (some ⟨g, 0, none⟩) [x, y] := by
  intro i hi
  have hi : i < 2 := by simpa using hi
  rcases i with _ | _ | i
  · refine ⟨⟨g, 0, none⟩, [.int .u32 x], rfl, rfl, fun j u hu => ?_⟩
    cases j with
    | zero => simp at hu; subst hu; exact h
    | succ j => simp at hu
  · refine ⟨⟨g, 0, none⟩, [.int .u32 y], rfl, rfl, fun j u hu => ?_⟩
    cases j with
    | zero => simp at hu; subst hu; exact h'
    | succ j => simp at hu
  · omega

theorem V_two (n : Int) : V [n % 4294967296, n / 4294967296] = n := by
  simp only [V]; omega

theorem nat_Of (n : Int) (w : World) (h0 : 0 ≤ n) (h1 : n < 18446744073709551616) :
    Calls Try.prog 81 #[.int .u64 n] w fun e w' => Told w n e w' := by
  have HO := Lib.hid (nat_own' (some ⟨w.heap.size, 0, none⟩) 2 2 [n % 4294967296, n / 4294967296] (w.alloc (.cells #[.int .u32 (n % 4294967296), .int .u32 (n / 4294967296)] 96)) rfl
    (Rn.two (by simp [go_sem]) (by simp [go_sem])) (Lim.cons (by omega) (by omega) (Lim.cons (by omega) (by omega) Lim.nil)) (Nat.le_refl _) (by omega))
  rw [V_two] at HO
  go_enter Try.func81, Try.ntmps81
  go_wp2_with fail
  refine HO.out.mono ?_
  clear HO
  rintro e w6 ⟨A6, c6, rfl, g4, g5, g6⟩
  have HB := Lib.hid ((((Below.refl _ w).alloc (Nat.le_refl _) _).trans (g6.mono (by simp)) : Below w.heap.size w w6))
  have G5 := Lib.hid g5
  clear g5 g6
  go_wp2
  go_ret
  exact ⟨A6, c6, rfl, g4, G5.out, HB.out⟩
end Go.Proofs.Ytchdoignomidjaa.F

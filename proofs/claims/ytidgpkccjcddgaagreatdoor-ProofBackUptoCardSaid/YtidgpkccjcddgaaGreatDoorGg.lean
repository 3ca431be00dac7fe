/- The walks of the reference's layer 1, fifth part: Gcd. -/
import Derived.Test.YtidgpkccjcddgaaGreatDoorGf
set_option linter.unusedVariables false
set_option linter.unusedSimpArgs false
namespace Go.Proofs.YtidgpkccjcddgaaGreatDoor.F
open Go.RowKit Go.Shelf Go.Proofs.YtidgpkccjcddgaaGreatDoorW.PrintLast
def ToldN (w : World) (n : Nat) (e : Ending) (w' : World) : Prop := ∃ A c, e = .returned (.slice A (dg n).length c) ∧ In w' A c (dg n) ∧ Below w.heap.size w w'
theorem Told.nat {w : World} {n : Nat} {e : Ending} {w' : World} (h : Told w (n : Int) e w') : ToldN w n e w' := by
 obtain ⟨A, c, h1, h2, h3, h4⟩ := h
 rw [Int.toNat_natCast] at h1 h2 h3
 exact ⟨A, c, h1, In.dg h3 h2, h4⟩
theorem r1_NormN (A : Option Addr) (c : Nat) (xs : List Int) (w : World) (h : In w A c xs) (hm : xs.length ≤ 2199023255552) :
 Calls Tryz.prog 133 #[.slice A xs.length c] w fun e w' => ToldN w (V xs).toNat e w' := by
 refine (r1_Norm A c xs w h hm).mono fun e w' hh => ?_
 have := V_nonneg h.lim
 exact Told.nat (by rw [show (((V xs).toNat : Nat) : Int) = V xs by omega]; exact hh)
theorem r1_bitN (A : Option Addr) (c n : Nat) (w : World) (h : In w A c (dg n)) (hm : (dg n).length ≤ 1099511627776) :
 Calls Tryz.prog 212 #[.slice A (dg n).length c, .int .i64 0] w fun e w' => e = .returned (.bool (decide (n % 2 = 1))) ∧ w' = w := by
 refine (r1_Bit A c (dg n) 0 w h hm (by omega)).mono fun e w' hh => ⟨hh.1.trans (ret_bool ?_), hh.2⟩
 rw [V_dg]
 simp
 omega
theorem r1_halfN (A : Option Addr) (c n : Nat) (w : World) (h : In w A c (dg n)) (hm : (dg n).length ≤ 1099511627776) :
 Calls Tryz.prog 213 #[.slice A (dg n).length c, .int .i64 (-1)] w fun e w' => ∃ A' c', e = .returned (.tuple #[.slice A' (dg (n / 2)).length c', .int .i64 0]) ∧ In w' A' c' (dg (n / 2)) ∧ Below w.heap.size w w' := by
 refine (r1_Half A c (dg n) w h hm).mono fun e w' hh => ?_
 obtain ⟨A', c', h1, h2, h3, h4⟩ := hh
 rw [V_dg, show ((n : Int) / 2).toNat = n / 2 by omega] at h1 h2 h3
 exact ⟨A', c', h1, In.dg h3 h2, h4⟩
theorem r1_cmpN (A : Option Addr) (c m : Nat) (B : Option Addr) (d n : Nat) (w : World) (h : In w A c (dg m)) (hm : (dg m).length ≤ 1099511627776) (k : In w B d (dg n)) (km : (dg n).length ≤ 1099511627776) :
 Calls Tryz.prog 211 #[.slice A (dg m).length c, .slice B (dg n).length d] w fun e w' => e = .returned (.int .i64 (sgn ((m : Int) - n))) ∧ w' = w := by
 have h1 := r1_Cmp A c (dg m) B d (dg n) w h (by omega) k (by omega)
 rwa [V_dg, V_dg] at h1
theorem r1_subN (A : Option Addr) (c m : Nat) (B : Option Addr) (d n : Nat) (w : World) (h : In w A c (dg m)) (hm : (dg m).length ≤ 1099511627776) (k : In w B d (dg n)) (km : (dg n).length ≤ 1099511627776) (hle : n ≤ m) :
 Calls Tryz.prog 214 #[.slice A (dg m).length c, .slice B (dg n).length d] w fun e w' => ∃ A' c', e = .returned (.tuple #[.slice A' (dg (m - n)).length c', .int .i64 0]) ∧ In w' A' c' (dg (m - n)) ∧ Below w.heap.size w w' := by
 refine (r1_Sub A c (dg m) B d (dg n) w h hm k km (by rw [V_dg, V_dg]; omega)).mono fun e w' hh => ?_
 obtain ⟨A', c', h1, h2, h3, h4⟩ := hh
 rw [V_dg, V_dg, show ((m : Int) - (n : Int)).toNat = m - n by omega] at h1 h2 h3
 exact ⟨A', c', h1, In.dg h3 h2, h4⟩
theorem r1_twiceN (A : Option Addr) (c n : Nat) (b : Bool) (w : World) (h : In w A c (dg n)) (hm : (dg n).length ≤ 1099511627776) :
 Calls Tryz.prog 215 #[.slice A (dg n).length c, .bool b] w fun e w' => ToldN w (2 * n + (if b then 1 else 0)) e w' := by
 refine (r1_twice A c (dg n) b w h hm).mono fun e w' hh => Told.nat ?_
 rw [V_dg] at hh
 rw [show ((2 * n + (if b then 1 else 0) : Nat) : Int) = 2 * (n : Int) + (if b then 1 else 0) by split <;> omega]
 exact hh
theorem gcd_half {a b g : Nat} (h : Nat.gcd (2 * a) b = g) (hg : g % 2 = 1) : Nat.gcd a b = g := by
 apply Nat.dvd_antisymm
 · rw [← h]; exact Nat.dvd_gcd (Nat.dvd_trans (Nat.gcd_dvd_left a b) (Nat.dvd_mul_left a 2)) (Nat.gcd_dvd_right a b)
 · have h1 : g ∣ 2 * a := h ▸ Nat.gcd_dvd_left _ _
   have h2 : g ∣ b := h ▸ Nat.gcd_dvd_right _ _
   have hc : Nat.Coprime g 2 := by
    have : Nat.gcd g 2 ∣ 2 := Nat.gcd_dvd_right g 2
    have h3 : Nat.gcd g 2 ∣ g := Nat.gcd_dvd_left g 2
    have h4 : Nat.gcd g 2 ≤ 2 := Nat.le_of_dvd (by omega) this
    have h5 : Nat.gcd g 2 ≠ 2 := fun h6 => by rw [h6] at h3; omega
    have h7 : 0 < Nat.gcd g 2 := Nat.gcd_pos_of_pos_right g (by omega)
    show Nat.gcd g 2 = 1
    omega
   exact Nat.dvd_gcd (hc.dvd_of_dvd_mul_left h1) h2
theorem gcd_odd {a b : Nat} (h : a % 2 = 1 ∨ b % 2 = 1) : Nat.gcd a b % 2 = 1 := by
 rcases Nat.mod_two_eq_zero_or_one (Nat.gcd a b) with h0 | h0
 · have h1 : 2 ∣ Nat.gcd a b := Nat.dvd_of_mod_eq_zero h0
   have h2 := Nat.dvd_trans h1 (Nat.gcd_dvd_left a b)
   have h3 := Nat.dvd_trans h1 (Nat.gcd_dvd_right a b)
   omega
 · exact h0
set_option maxHeartbeats 4000000 in
theorem r1_Gcd (A : Option Addr) (c : Nat) (xs : List Int) (B : Option Addr) (d : Nat) (ys : List Int) (w : World) (h : In w A c xs) (hm : xs.length ≤ 549755813888) (k : In w B d ys) (km : ys.length ≤ 549755813888) :
 Calls Tryz.prog 154 #[.slice A xs.length c, .slice B ys.length d] w fun e w' => ToldN w (Nat.gcd (V xs).toNat (V ys).toNat) e w' := by
 have HN1 := Lib.hid (r1_NormN A c xs w h (by omega))
 have HN2 := Lib.hid (fun (W : World) (hb : Below w.heap.size w W) => r1_NormN B d ys W (k.below hb) (by omega))
 have l1 : (dg (V xs).toNat).length ≤ 549755813888 := Nat.le_trans (dg_len_of_V h.lim) hm
 have l2 : (dg (V ys).toNat).length ≤ 549755813888 := Nat.le_trans (dg_len_of_V k.lim) km
 clear h k
 generalize (V xs).toNat = X at *
 generalize (V ys).toNat = Y at *
 go_enter Tryz.func154, Tryz.ntmps154
 go_wp2_with fail
 refine HN1.out.mono ?_
 clear HN1
 rintro e w1 ⟨A1, c1, rfl, g1, g2⟩
 have HX := Lib.hid g1
 have HB := Lib.hid g2
 clear g1 g2
 go_wp2_with fail
 refine (HN2.out w1 HB.out).mono ?_
 clear HN2
 rintro e w2 ⟨B1, d1, rfl, g1, g2⟩
 replace HX := Lib.hid (HX.out.below g2)
 have HY := Lib.hid g1
 replace HB := Lib.hid (HB.out.trans (g2.mono HB.out.size))
 clear g1 g2
 by_cases hx : X = 0
 · subst hx
   have e0 : dg 0 = [] := dg_zero
   rw [e0] at *
   go_wp2
   go_ret
   unfold ToldN
   rw [Nat.gcd_zero_left]
   exact ⟨B1, d1, rfl, HY.out, HB.out⟩
 · have hxl : 0 < (dg X).length := by
    rcases Nat.eq_zero_or_pos (dg X).length with h0 | h0
    · exact absurd (dg_eq_nil.1 (List.length_eq_zero_iff.1 h0)) hx
    · exact h0
   have hxz : (((dg X).length : Int) == 0) = false := by rw [beq_eq_false_iff_ne]; omega
   by_cases hy : Y = 0
   · subst hy
     have e0 : dg 0 = [] := dg_zero
     rw [e0] at *
     go_wp2
     go_ret
     unfold ToldN
     rw [Nat.gcd_zero_right]
     exact ⟨A1, c1, rfl, HX.out, HB.out⟩
   · have hyl : 0 < (dg Y).length := by
      rcases Nat.eq_zero_or_pos (dg Y).length with h0 | h0
      · exact absurd (dg_eq_nil.1 (List.length_eq_zero_iff.1 h0)) hy
      · exact h0
     have hyz : (((dg Y).length : Int) == 0) = false := by rw [beq_eq_false_iff_ne]; omega
     have hal := Lib.hid ((Below.refl _ w2).alloc (Nat.le_refl _) (.cells #[.int .u32 1] 133))
     have HO := Lib.hid (In.one (w := w2.alloc (.cells #[.int .u32 1] 133)) (g := w2.heap.size) (x := 1) (by simp [go_sem]) (by omega) (by omega))
     have hC1 := Lib.hid (r1_Cmp A1 c1 (dg X) (some ⟨w2.heap.size, 0, none⟩) 1 [1] (w2.alloc (.cells #[.int .u32 1] 133)) (HX.out.below hal.out) (by omega) HO.out (by simp))
     have hC2 := Lib.hid (r1_Cmp B1 d1 (dg Y) (some ⟨w2.heap.size, 0, none⟩) 1 [1] (w2.alloc (.cells #[.int .u32 1] 133)) (HY.out.below hal.out) (by omega) HO.out (by simp))
     rw [V_dg, show V [1] = 1 from rfl] at hC1 hC2
     replace HX := Lib.hid (HX.out.below hal.out)
     replace HY := Lib.hid (HY.out.below hal.out)
     replace HB := Lib.hid (HB.out.alloc HB.out.size (.cells #[.int .u32 1] 133))
     clear hal
     by_cases hX1 : X = 1
     · subst hX1
       rw [show sgn (((1 : Nat) : Int) - 1) = 0 from rfl] at hC1
       go_wp2_with fail
       refine hC1.out.mono ?_
       rintro e w' ⟨rfl, rfl⟩
       go_wp2
       go_ret
       unfold ToldN
       rw [Nat.gcd_one_left, dg_one]
       exact ⟨_, _, rfl, HO.out, HB.out⟩
     · have hs1 : sgn ((X : Int) - 1) = 1 := by unfold sgn; rw [if_neg (by omega), if_pos (by omega)]
       rw [hs1] at hC1
       clear hs1
       by_cases hY1 : Y = 1
       · subst hY1
         rw [show sgn (((1 : Nat) : Int) - 1) = 0 from rfl] at hC2
         go_wp2_with fail
         refine hC1.out.mono ?_
         rintro e w' ⟨rfl, rfl⟩
         go_wp2_with fail
         refine hC2.out.mono ?_
         rintro e w' ⟨rfl, rfl⟩
         go_wp2
         go_ret
         unfold ToldN
         rw [Nat.gcd_one_right, dg_one]
         exact ⟨_, _, rfl, HO.out, HB.out⟩
       · have hs2 : sgn ((Y : Int) - 1) = 1 := by unfold sgn; rw [if_neg (by omega), if_pos (by omega)]
         rw [hs2] at hC2
         clear hs2 hX1 hY1 HO
         go_wp2_with fail
         refine hC1.out.mono ?_
         rintro e w' ⟨rfl, rfl⟩
         go_wp2_with fail
         refine hC2.out.mono ?_
         rintro e W0 ⟨rfl, rfl⟩
         go_upto_block 0 with (fail)
         clear hC1 hC2 hxz hyz hxl hyl
         have hX0 : 0 < X := by omega
         have hY0 : 0 < Y := by omega
         obtain ⟨T, hT1, hT2⟩ : ∃ T, X < 2 ^ T ∧ T ≤ 17592186044416 := by
          refine ⟨32 * (dg X).length, ?_, by omega⟩
          have h1 := dg_lt X
          have h3 : Bp (dg X).length = ((2 ^ (32 * (dg X).length) : Nat) : Int) := by
           rw [Nat.pow_mul]
           unfold Bp
           rw [Int.natCast_pow]; rfl
          omega
         have hbig := Lib.hid hT1
         clear hT1
         clear hx hy
         go_cut [0, 1, 6] (fun s0 s1 s6 wc => ∃ (x y t : Nat) (A : Option Addr) (c : Nat) (B : Option Addr) (d : Nat), s0 = .slice A (dg x).length c ∧ s1 = .slice B (dg y).length d ∧ s6 = .int .i64 t ∧ t ≤ T ∧ (dg x).length ≤ 549755813888 ∧ (dg y).length ≤ 549755813888 ∧ 0 < x ∧ 0 < y ∧ (x % 2 = 1 ∨ y % 2 = 1) ∧
          Hid (In wc A c (dg x)) ∧ Hid (In wc B d (dg y)) ∧ Hid (Below w.heap.size w wc) ∧ Hid (Nat.gcd X Y = 2 ^ t * Nat.gcd x y))
         case first =>
          go_wp2
          go_loopg [0, 1, 6] (X + 1) (fun gg s0 s1 s6 wr => ∃ (x y t : Nat) (A : Option Addr) (c : Nat) (B : Option Addr) (d : Nat), x < gg ∧ s0 = .slice A (dg x).length c ∧ s1 = .slice B (dg y).length d ∧ s6 = .int .i64 t ∧ t ≤ T ∧ (dg x).length ≤ 549755813888 ∧ (dg y).length ≤ 549755813888 ∧ 0 < x ∧ 0 < y ∧
           Hid (In wr A c (dg x)) ∧ Hid (In wr B d (dg y)) ∧ Hid (Below w.heap.size w wr) ∧ Hid (Nat.gcd X Y = 2 ^ t * Nat.gcd x y) ∧ Hid (X = 2 ^ t * x))
          case atStart => exact ⟨X, Y, 0, A1, c1, B1, d1, by omega, rfl, rfl, rfl, by omega, l1, l2, hX0, hY0, HX, HY, HB, by show _ = _; simp, by show _ = _; simp⟩
          case round =>
           clear HX HY HB l1 l2 hX0 hY0
           obtain ⟨x, y, t, A, c, B, d, hg, rfl, rfl, rfl, ht, l1, l2, hx0, hy0, HX, HY, HB, HG, HE⟩ := hrel
           have hb1 := Lib.hid (r1_bitN A c x wr HX.out (by omega))
           have hb2 := Lib.hid (r1_bitN B d y wr HY.out (by omega))
           by_cases hx1 : x % 2 = 1
           · rw [decide_eq_true hx1] at hb1
             go_wp2_with fail
             refine hb1.out.mono ?_
             rintro e w' ⟨rfl, rfl⟩
             go_wp2
             go_meet
             case rel => exact ⟨x, y, t, A, c, B, d, rfl, rfl, rfl, ht, l1, l2, hx0, hy0, .inl hx1, HX, HY, HB, HG⟩
           · rw [decide_eq_false hx1] at hb1
             by_cases hy1 : y % 2 = 1
             · rw [decide_eq_true hy1] at hb2
               go_wp2_with fail
               refine hb1.out.mono ?_
               rintro e w' ⟨rfl, rfl⟩
               go_wp2_with fail
               refine hb2.out.mono ?_
               rintro e w' ⟨rfl, rfl⟩
               go_wp2
               go_meet
               case rel => exact ⟨x, y, t, A, c, B, d, rfl, rfl, rfl, ht, l1, l2, hx0, hy0, .inr hy1, HX, HY, HB, HG⟩
             · rw [decide_eq_false hy1] at hb2
               have hx2 : x = 2 * (x / 2) := by omega
               have hy2 : y = 2 * (y / 2) := by omega
               have HG2 : Hid (Nat.gcd X Y = 2 ^ (t + 1) * Nat.gcd (x / 2) (y / 2)) := by
                show _ = _
                rw [HG.out]
                conv => lhs; rw [hx2, hy2]
                rw [Nat.gcd_mul_left, Nat.pow_succ, Nat.mul_assoc]
               have HE2 : Hid (X = 2 ^ (t + 1) * (x / 2)) := by
                show _ = _
                rw [HE.out]
                conv => lhs; rw [hx2]
                rw [Nat.pow_succ, Nat.mul_assoc]
               have ht2 : t + 1 ≤ T := by
                rcases Nat.lt_or_ge T (t + 1) with h1 | h1
                · exfalso
                  have h2 : 2 ^ T ≤ 2 ^ (t + 1) := Nat.pow_le_pow_right (by omega) (by omega)
                  have h3 : 2 ^ (t + 1) * 1 ≤ 2 ^ (t + 1) * (x / 2) := Nat.mul_le_mul_left _ (by omega)
                  have h4 := hbig.out
                  have h5 := HE2.out
                  omega
                · exact h1
               have l3 : (dg (x / 2)).length ≤ 549755813888 := Nat.le_trans (dg_length_mono (Nat.div_le_self _ _)) l1
               have l4 : (dg (y / 2)).length ≤ 549755813888 := Nat.le_trans (dg_length_mono (Nat.div_le_self _ _)) l2
               have hlt : x / 2 < x := by omega
               have p3 : 0 < x / 2 := by omega
               have p4 : 0 < y / 2 := by omega
               have hh1 := Lib.hid (r1_halfN A c x wr HX.out (by omega))
               have hh2 := Lib.hid (fun (W : World) (hb : Below wr.heap.size wr W) => r1_halfN B d y W (HY.out.below hb) (by omega))
               clear hx2 hy2 HG HE hx1 hy1 HX HY
               generalize x / 2 = u at *
               generalize y / 2 = v at *
               go_wp2_with fail
               refine hb1.out.mono ?_
               rintro e w' ⟨rfl, rfl⟩
               go_wp2_with fail
               refine hb2.out.mono ?_
               rintro e w' ⟨rfl, rfl⟩
               go_wp2_with fail
               refine hh1.out.mono ?_
               clear hh1
               rintro e W1 ⟨A2, c2, rfl, g1, g2⟩
               have HU := Lib.hid g1
               have HS := Lib.hid g2
               clear g1 g2
               go_wp2_with fail
               refine (hh2.out W1 HS.out).mono ?_
               clear hh2
               rintro e W2 ⟨B2, d2, rfl, g1, g2⟩
               replace HU := Lib.hid (HU.out.below g2)
               have HV := Lib.hid g1
               replace HB := Lib.hid (HB.out.trans ((HS.out.trans (g2.mono HS.out.size)).mono HB.out.size))
               clear g1 g2 HS
               have hw : IntKind.i64.wrap ((t : Int) + 1) = (t : Int) + 1 := i64w (by omega) (by omega)
               go_wp2
               go_roundg x
               case measure => omega
               case rel => exact ⟨u, v, t + 1, A2, c2, B2, d2, hlt, rfl, rfl, by go_num, ht2, l3, l4, p3, p4, HU, HV, HB, HG2, HE2⟩
         case rest =>
          have HLG := Lib.hid (Nat.le_trans (dg_length_mono (Nat.gcd_le_left Y hX0)) l1)
          clear hbig HX HY HB l1 l2 hX0 hY0
          obtain ⟨x0, y0, t, A0, c0, B0, d0, rfl, rfl, rfl, ht, l1, l2, hx0, hy0, hodd, HX, HY, HB, HG⟩ := hcut
          obtain ⟨g, hgd⟩ : ∃ g, g = Nat.gcd x0 y0 := ⟨_, rfl⟩
          have hgo := Lib.hid (show g % 2 = 1 from hgd ▸ gcd_odd hodd)
          have HGd := Lib.hid hgd.symm
          replace HG : Hid (Nat.gcd X Y = 2 ^ t * g) := by rw [hgd]; exact HG
          clear hodd hgd
          go_wp2
          go_loopg [0, 1] (x0 + y0 + 1) (fun gg s0 s1 wr => ∃ (x y : Nat) (A : Option Addr) (c : Nat) (B : Option Addr) (d : Nat), x + y < gg ∧ s0 = .slice A (dg x).length c ∧ s1 = .slice B (dg y).length d ∧ (dg x).length ≤ 549755813888 ∧ (dg y).length ≤ 549755813888 ∧ 0 < x ∧
           Hid (In wr A c (dg x)) ∧ Hid (In wr B d (dg y)) ∧ Hid (Below w.heap.size w wr) ∧ Hid (Nat.gcd x y = g))
          case atStart => exact ⟨x0, y0, A0, c0, B0, d0, by omega, rfl, rfl, l1, l2, hx0, HX, HY, HB, HGd⟩
          case round =>
           clear HX HY HB HGd l1 l2 hx0 hy0
           obtain ⟨x, y, A, c, B, d, hg, rfl, rfl, l1, l2, hx0, HX, HY, HB, HE⟩ := hrel
           by_cases hy0 : y = 0
           · have hgx : Hid (Nat.gcd X Y = 2 ^ t * x) := by show _ = _; rw [HG.out, ← HE.out, hy0, Nat.gcd_zero_right]
             have e0 : dg y = [] := by rw [hy0]; exact dg_zero
             rw [e0] at *
             clear HG HE HY hy0 l2 e0
             go_wp2
             obtain ⟨wo, rfl⟩ : ∃ wo, wo = wr := ⟨wr, rfl⟩
             go_loopg [0, 7] t (fun gg s0 s7 wr => ∃ (i u : Nat) (A : Option Addr) (c : Nat), i + gg = t ∧ s0 = .slice A (dg u).length c ∧ s7 = .int .i64 i ∧ Hid (In wr A c (dg u)) ∧ Hid (Below w.heap.size w wr) ∧ Hid (u = 2 ^ i * x))
             case atStart => exact ⟨0, x, A, c, by omega, rfl, rfl, HX, HB, by show _ = _; simp⟩
             case round =>
              clear HX HB
              obtain ⟨i, u, A, c, hi, rfl, rfl, HX, HB, HU⟩ := hrel
              by_cases hlt : i < t
              · have hltz : (i : Int) < (t : Int) := by omega
                have hlu : (dg u).length ≤ 1099511627776 := by
                 have h1 : u ≤ Nat.gcd X Y := by
                  rw [HU.out, hgx.out]
                  exact Nat.mul_le_mul_right _ (Nat.pow_le_pow_right (by omega) (by omega))
                 have := Nat.le_trans (dg_length_mono h1) HLG.out
                 omega
                have htw := Lib.hid (r1_twiceN A c u false wr HX.out hlu)
                have HU2 : Hid (2 * u + (if false = true then 1 else 0) = 2 ^ (i + 1) * x) := by
                 show _ = _; rw [HU.out, Nat.pow_succ]; simp only [Bool.false_eq_true, if_false, Nat.add_zero]; rw [← Nat.mul_assoc, Nat.mul_comm 2]
                generalize 2 * u + (if false = true then 1 else 0) = v at *
                have hw : IntKind.i64.wrap ((i : Int) + 1) = (i : Int) + 1 := i64w (by omega) (by omega)
                go_wp2_with fail
                refine htw.out.mono ?_
                clear htw
                rintro e W1 ⟨A2, c2, rfl, g1, g2⟩
                have HV := Lib.hid g1
                have HB2 := Lib.hid (HB.out.trans (g2.mono HB.out.size))
                clear g1 g2
                go_wp2
                go_roundg (t - (i + 1))
                case measure => omega
                case rel => exact ⟨i + 1, v, A2, c2, by omega, rfl, by go_num, HV, HB2, HU2⟩
              · have hltz : ¬ (i : Int) < (t : Int) := by omega
                have hue : Hid (Nat.gcd X Y = u) := by
                 show _ = _
                 rw [hgx.out, HU.out, show i = t by omega]
                go_wp2
                go_ret
                unfold ToldN
                rw [hue.out]
                exact ⟨A, c, rfl, HX.out, HB.out⟩
           · have hyl : 0 < (dg y).length := by
              rcases Nat.eq_zero_or_pos (dg y).length with h0 | h0
              · exact absurd (dg_eq_nil.1 (List.length_eq_zero_iff.1 h0)) hy0
              · exact h0
             go_wp2
             clear hyl
             obtain ⟨wo, rfl⟩ : ∃ wo, wo = wr := ⟨wr, rfl⟩
             go_loopg [0] (x + 1) (fun gg s0 wr => ∃ (u : Nat) (A : Option Addr) (c : Nat), u < gg ∧ u ≤ x ∧ s0 = .slice A (dg u).length c ∧ (dg u).length ≤ 549755813888 ∧ 0 < u ∧ Hid (In wr A c (dg u)) ∧ Hid (Below wo.heap.size wo wr) ∧ Hid (Nat.gcd u y = g))
             case atStart => exact ⟨x, A, c, by omega, by omega, rfl, l1, hx0, HX, Below.refl _ _, HE⟩
             case round =>
              clear HX HE l1 hx0
              obtain ⟨u, A, c, hgi, hux, rfl, l1, hu0, HX, HBo, HE⟩ := hrel
              have hbit := Lib.hid (r1_bitN A c u wr HX.out (by omega))
              by_cases hu1 : u % 2 = 1
              · rw [decide_eq_true hu1] at hbit
                replace HY := Lib.hid (HY.out.below HBo.out)
                replace HB := Lib.hid (HB.out.trans (HBo.out.mono HB.out.size))
                go_wp2_with fail
                refine hbit.out.mono ?_
                clear hbit
                rintro e w' ⟨rfl, rfl⟩
                go_wp2
                clear HBo
                have hy1 : 0 < y := by omega
                obtain ⟨wp, rfl⟩ : ∃ wp, wp = w' := ⟨w', rfl⟩
                go_loopg [1] (y + 1) (fun gg s1 wr => ∃ (v : Nat) (B : Option Addr) (d : Nat), v < gg ∧ v ≤ y ∧ s1 = .slice B (dg v).length d ∧ (dg v).length ≤ 549755813888 ∧ 0 < v ∧ Hid (In wr B d (dg v)) ∧ Hid (Below wp.heap.size wp wr) ∧ Hid (Nat.gcd u v = g))
                case atStart => exact ⟨y, B, d, by omega, by omega, rfl, l2, hy1, HY, Below.refl _ _, HE⟩
                case round =>
                 clear HY HE l2
                 obtain ⟨v, B, d, hgj, hvy, rfl, l2, hv0, HY, HBp, HE⟩ := hrel
                 have hbit := Lib.hid (r1_bitN B d v wr HY.out (by omega))
                 by_cases hv1 : v % 2 = 1
                 · rw [decide_eq_true hv1] at hbit
                   replace HX := Lib.hid (HX.out.below HBp.out)
                   replace HB := Lib.hid (HB.out.trans (HBp.out.mono HB.out.size))
                   have hcm := Lib.hid (r1_cmpN A c u B d v wr HX.out (by omega) HY.out (by omega))
                   by_cases hlt : v < u
                   · have hsu := Lib.hid (r1_subN A c u B d v wr HX.out (by omega) HY.out (by omega) (by omega))
                     rw [show sgn ((u : Int) - v) = 1 by unfold sgn; rw [if_neg (by omega), if_pos (by omega)]] at hcm
                     have hE2 : Hid (Nat.gcd v (u - v) = g) := by
                      show _ = _
                      rw [Nat.gcd_sub_self_right (by omega), Nat.gcd_comm]; exact HE.out
                     have hd1 : v + (u - v) ≤ u := by omega
                     have l3 : (dg (u - v)).length ≤ 549755813888 := Nat.le_trans (dg_length_mono (by omega)) l1
                     generalize u - v = z at *
                     go_wp2_with fail
                     refine hbit.out.mono ?_
                     rintro e w' ⟨rfl, rfl⟩
                     go_wp2_with fail
                     refine hcm.out.mono ?_
                     rintro e w' ⟨rfl, rfl⟩
                     go_wp2_with fail
                     refine hsu.out.mono ?_
                     rintro e W1 ⟨B2, d2, rfl, g1, g2⟩
                     have HZ := Lib.hid g1
                     replace HY := Lib.hid (HY.out.below g2)
                     replace HB := Lib.hid (HB.out.trans (g2.mono HB.out.size))
                     clear g1 g2 hsu hcm hbit
                     go_wp2
                     go_roundg (v + z + 1)
                     case measure => omega
                     case rel => exact ⟨v, z, B, d, B2, d2, by omega, rfl, rfl, l2, l3, hv0, HY, HZ, HB, hE2⟩
                   · have hsu := Lib.hid (r1_subN B d v A c u wr HY.out (by omega) HX.out (by omega) (by omega))
                     have hsg : ¬ (0 < sgn ((u : Int) - v)) := by unfold sgn; repeat' split <;> omega
                     generalize sgn ((u : Int) - v) = q at hcm hsg
                     have hE2 : Hid (Nat.gcd u (v - u) = g) := by
                      show _ = _
                      rw [Nat.gcd_sub_self_right (by omega)]; exact HE.out
                     have hd1 : u + (v - u) ≤ v := by omega
                     have l3 : (dg (v - u)).length ≤ 549755813888 := Nat.le_trans (dg_length_mono (by omega)) l2
                     generalize v - u = z at *
                     go_wp2_with fail
                     refine hbit.out.mono ?_
                     rintro e w' ⟨rfl, rfl⟩
                     go_wp2_with fail
                     refine hcm.out.mono ?_
                     rintro e w' ⟨rfl, rfl⟩
                     go_wp2_with fail
                     refine hsu.out.mono ?_
                     rintro e W1 ⟨B2, d2, rfl, g1, g2⟩
                     have HZ := Lib.hid g1
                     replace HX := Lib.hid (HX.out.below g2)
                     replace HB := Lib.hid (HB.out.trans (g2.mono HB.out.size))
                     clear g1 g2 hsu hcm hbit
                     go_wp2
                     go_roundg (u + z + 1)
                     case measure => omega
                     case rel => exact ⟨u, z, A, c, B2, d2, by omega, rfl, rfl, l1, l3, hu0, HX, HZ, HB, hE2⟩
                 · rw [decide_eq_false hv1] at hbit
                   have hh := Lib.hid (r1_halfN B d v wr HY.out (by omega))
                   have hE2 : Hid (Nat.gcd u (v / 2) = g) := by
                    show _ = _
                    rw [Nat.gcd_comm]
                    exact gcd_half (by rw [show 2 * (v / 2) = v by omega, Nat.gcd_comm]; exact HE.out) hgo.out
                   have hd1 : v / 2 < v := by omega
                   have hd2 : 0 < v / 2 := by omega
                   have l3 : (dg (v / 2)).length ≤ 549755813888 := Nat.le_trans (dg_length_mono (by omega)) l2
                   generalize v / 2 = z at *
                   go_wp2_with fail
                   refine hbit.out.mono ?_
                   rintro e w' ⟨rfl, rfl⟩
                   go_wp2_with fail
                   refine hh.out.mono ?_
                   rintro e W1 ⟨B2, d2, rfl, g1, g2⟩
                   have HZ := Lib.hid g1
                   have HB3 := Lib.hid (HBp.out.trans (g2.mono HBp.out.size))
                   clear g1 g2 hh hbit
                   go_wp2
                   go_roundg v
                   case measure => omega
                   case rel => exact ⟨z, B2, d2, hd1, by omega, rfl, l3, hd2, HZ, HB3, hE2⟩
              · rw [decide_eq_false hu1] at hbit
                have hh := Lib.hid (r1_halfN A c u wr HX.out (by omega))
                have hE2 : Hid (Nat.gcd (u / 2) y = g) := by
                 show _ = _
                 exact gcd_half (by rw [show 2 * (u / 2) = u by omega]; exact HE.out) hgo.out
                have hd1 : u / 2 < u := by omega
                have hd2 : 0 < u / 2 := by omega
                have l3 : (dg (u / 2)).length ≤ 549755813888 := Nat.le_trans (dg_length_mono (by omega)) l1
                generalize u / 2 = z at *
                go_wp2_with fail
                refine hbit.out.mono ?_
                rintro e w' ⟨rfl, rfl⟩
                go_wp2_with fail
                refine hh.out.mono ?_
                rintro e W1 ⟨A2, c2, rfl, g1, g2⟩
                have HZ := Lib.hid g1
                have HB3 := Lib.hid (HBo.out.trans (g2.mono HBo.out.size))
                clear g1 g2 hh hbit
                go_wp2
                go_roundg u
                case measure => omega
                case rel => exact ⟨z, A2, c2, hd1, by omega, rfl, l3, hd2, HZ, HB3, hE2⟩
def ToldD (w : World) (a b : Nat) (e : Ending) (w' : World) : Prop :=
 ∃ A c B d, e = .returned (.tuple #[.slice A (dg (a / b)).length c, .slice B (dg (a % b)).length d, .int .i64 0]) ∧ In w' A c (dg (a / b)) ∧ In w' B d (dg (a % b)) ∧ Below w.heap.size w w'
def Fresh9 (g : Nat) (A : Option Addr) : Prop := ∀ ad, A = some ad → g < ad.block
theorem Rn.apart {w : World} {A : Option Addr} {xs : List Int} {g : Nat} (h : Rn w A xs) (hn : Fresh9 g A) (i : Nat) (v : Value) : Rn (w.setCell ⟨g, i, none⟩ v) A xs := by
 intro k hk
 obtain ⟨ad, vs, e, hC, hc⟩ := h k hk
 refine ⟨ad, vs, e, hC, fun j u hu => ?_⟩
 have hb : (ad.add (k * (Knd.int IntKind.u32).sz + j)).block ≠ g := by
  have h1 := hn ad e
  have h2 : (ad.add (k * (Knd.int IntKind.u32).sz + j)).block = ad.block := by unfold Addr.add; split <;> rfl
  omega
 rw [World.cell?_of_block (Below.heap_setCell w _ v _ hb)]
 exact hc j u hu
theorem In.apart {w : World} {A : Option Addr} {c : Nat} {xs : List Int} {g : Nat} (h : In w A c xs) (hn : Fresh9 g A) (i : Nat) (v : Value) : In (w.setCell ⟨g, i, none⟩ v) A c xs := ⟨h.row.apart hn i v, h.lim, h.cap⟩
def ToldNF (w : World) (n : Nat) (e : Ending) (w' : World) : Prop := ∃ A c, e = .returned (.slice A (dg n).length c) ∧ In w' A c (dg n) ∧ Below w.heap.size w w' ∧ ∀ g, g < w.heap.size → Fresh9 g A
theorem ToldF.nat {w : World} {n : Nat} {e : Ending} {w' : World} (h : ToldF w (n : Int) e w') : ToldNF w n e w' := by
 obtain ⟨A, c, h1, h2, h3, h4, h5⟩ := h
 rw [Int.toNat_natCast] at h1 h2 h3
 exact ⟨A, c, h1, In.dg h3 h2, h4, fun g hg ad h6 => Nat.lt_of_lt_of_le hg (h5 ad h6)⟩
theorem r1_NormNF (A : Option Addr) (c : Nat) (xs : List Int) (w : World) (h : In w A c xs) (hm : xs.length ≤ 2199023255552) :
 Calls Tryz.prog 133 #[.slice A xs.length c] w fun e w' => ToldNF w (V xs).toNat e w' := by
 refine (r1_NormF A c xs w h hm).mono fun e w' hh => ?_
 have := V_nonneg h.lim
 exact ToldF.nat (by rw [show (((V xs).toNat : Nat) : Int) = V xs by omega]; exact hh)
theorem r1_subNF (A : Option Addr) (c m : Nat) (B : Option Addr) (d n : Nat) (w : World) (h : In w A c (dg m)) (hm : (dg m).length ≤ 1099511627776) (k : In w B d (dg n)) (km : (dg n).length ≤ 1099511627776) (hle : n ≤ m) :
 Calls Tryz.prog 214 #[.slice A (dg m).length c, .slice B (dg n).length d] w fun e w' => ∃ A' c', e = .returned (.tuple #[.slice A' (dg (m - n)).length c', .int .i64 0]) ∧ In w' A' c' (dg (m - n)) ∧ Below w.heap.size w w' ∧ ∀ g, g < w.heap.size → Fresh9 g A' := by
 refine (r1_SubF A c (dg m) B d (dg n) w h hm k km (by rw [V_dg, V_dg]; omega)).mono fun e w' hh => ?_
 obtain ⟨A', c', h1, h2, h3, h4, h5⟩ := hh
 rw [V_dg, V_dg, show ((m : Int) - (n : Int)).toNat = m - n by omega] at h1 h2 h3
 exact ⟨A', c', h1, In.dg h3 h2, h4, fun g hg ad h6 => Nat.lt_of_lt_of_le hg (h5 ad h6)⟩
theorem r1_twiceNF (A : Option Addr) (c n : Nat) (b : Bool) (w : World) (h : In w A c (dg n)) (hm : (dg n).length ≤ 1099511627776) :
 Calls Tryz.prog 215 #[.slice A (dg n).length c, .bool b] w fun e w' => ToldNF w (2 * n + (if b then 1 else 0)) e w' := by
 refine (r1_twiceF A c (dg n) b w h hm).mono fun e w' hh => ToldF.nat ?_
 rw [V_dg] at hh
 rw [show ((2 * n + (if b then 1 else 0) : Nat) : Int) = 2 * (n : Int) + (if b then 1 else 0) by split <;> omega]
 exact hh
theorem r1_bitNN (A : Option Addr) (c n i : Nat) (w : World) (h : In w A c (dg n)) (hm : (dg n).length ≤ 1099511627776) (hi : i < 140737488355328) :
 Calls Tryz.prog 212 #[.slice A (dg n).length c, .int .i64 i] w fun e w' => e = .returned (.bool (decide (n / 2 ^ i % 2 = 1))) ∧ w' = w := by
 refine (r1_Bit A c (dg n) i w h hm hi).mono fun e w' hh => ⟨hh.1.trans (ret_bool ?_), hh.2⟩
 rw [V_dg]
 have e1 : (n : Int) / 2 ^ i % 2 = ((n / 2 ^ i % 2 : Nat) : Int) := by
  rw [Int.natCast_emod, Int.natCast_ediv, Int.natCast_pow]; rfl
 rw [e1]
 simp
 omega
theorem or_bit {z : Int} {s : Nat} (hs : s < 32) (h0 : 0 ≤ z) (h1 : z < 4294967296) (hz : z % 2 ^ (s + 1) = 0) : bits .or .u32 z (2 ^ s % 4294967296) = z + 2 ^ s ∧ z + 2 ^ s < 4294967296 := by
 obtain ⟨n, rfl⟩ := Int.eq_ofNat_of_zero_le h0
 have e1 : (4294967296 : Nat) = 2 ^ (s + 1) * 2 ^ (31 - s) := by rw [← Nat.pow_add, show s + 1 + (31 - s) = 32 by omega]
 have hz' : n % 2 ^ (s + 1) = 0 := by
  have : ((n % 2 ^ (s + 1) : Nat) : Int) = 0 := by rw [Int.natCast_emod, Int.natCast_pow]; exact hz
  omega
 have hn : n < 4294967296 := by omega
 have hp : 2 ^ s < 2 ^ (s + 1) := Nat.pow_lt_pow_right (by omega) (by omega)
 have hd := Nat.div_add_mod n (2 ^ (s + 1))
 rw [hz', Nat.add_zero] at hd
 have hq : n / 2 ^ (s + 1) < 2 ^ (31 - s) := by
  rcases Nat.lt_or_ge (n / 2 ^ (s + 1)) (2 ^ (31 - s)) with h2 | h2
  · exact h2
  · have := Nat.mul_le_mul_left (2 ^ (s + 1)) h2
    omega
 have hb : 2 ^ (s + 1) * (n / 2 ^ (s + 1) + 1) ≤ 2 ^ (s + 1) * 2 ^ (31 - s) := Nat.mul_le_mul_left _ hq
 rw [Nat.mul_add] at hb
 have hlt : n + 2 ^ s < 4294967296 := by omega
 have hc : (2 : Int) ^ s = ((2 ^ s : Nat) : Int) := by rw [Int.natCast_pow]; rfl
 rw [hc, show ((2 ^ s : Nat) : Int) % 4294967296 = ((2 ^ s : Nat) : Int) by omega]
 refine ⟨?_, by omega⟩
 rw [Go.u32_or_nat _ _ hn (by omega), nat_join (s + 1) _ _ hz' hp]
 omega
theorem low_zero {V' T D z Q : Int} {j s : Nat} (hs : s < 32) (hT : 0 ≤ T ∧ T < Bp j) (hV : V' = T + Bp j * (z + 4294967296 * D)) (hQ : V' = Q * (Bp j * 2 ^ (s + 1))) : z % 2 ^ (s + 1) = 0 := by
 have hp := Bp_pos j
 have e1 : (4294967296 : Int) = 2 ^ (s + 1) * 2 ^ (31 - s) := by rw [← Int.pow_add, show s + 1 + (31 - s) = 32 by omega]; rfl
 have h1 : T = Bp j * (Q * 2 ^ (s + 1) - (z + 4294967296 * D)) := by
  have : T = Q * (Bp j * 2 ^ (s + 1)) - Bp j * (z + 4294967296 * D) := by omega
  rw [this]; grind
 have h2 : Q * 2 ^ (s + 1) - (z + 4294967296 * D) = 0 := by
  generalize Q * 2 ^ (s + 1) - (z + 4294967296 * D) = u at h1
  rcases Int.lt_trichotomy u 0 with h3 | h3 | h3
  · have := Int.mul_le_mul_of_nonneg_left (show u ≤ -1 by omega) (Int.le_of_lt hp)
    omega
  · exact h3
  · have := Int.mul_le_mul_of_nonneg_left (show 1 ≤ u by omega) (Int.le_of_lt hp)
    omega
 have h4 : z = 2 ^ (s + 1) * (Q - 2 ^ (31 - s) * D) := by
  have : z = Q * 2 ^ (s + 1) - 4294967296 * D := by omega
  rw [this, e1]; grind
 rw [h4]; exact Int.mul_emod_right _ _
set_option maxHeartbeats 4000000 in
theorem r1_Div (A : Option Addr) (c : Nat) (xs : List Int) (B : Option Addr) (d : Nat) (ys : List Int) (w : World) (h : In w A c xs) (hm : xs.length ≤ 549755813888) (k : In w B d ys) (km : ys.length ≤ 549755813888) (hy : 0 < V ys) :
 Calls Tryz.prog 155 #[.slice A xs.length c, .slice B ys.length d] w fun e w' => ToldD w (V xs).toNat (V ys).toNat e w' := by
 have HN1 := Lib.hid (fun (W : World) (hb : Below w.heap.size w W) => r1_NormN A c xs W (h.below hb) (by omega))
 have HN2 := Lib.hid (r1_NormN B d ys w k (by omega))
 have l1 : (dg (V xs).toNat).length ≤ 549755813888 := Nat.le_trans (dg_len_of_V h.lim) hm
 have l2 : (dg (V ys).toNat).length ≤ 549755813888 := Nat.le_trans (dg_len_of_V k.lim) km
 have hY0 : 0 < (V ys).toNat := by omega
 clear h k hy
 generalize (V xs).toNat = X at *
 generalize (V ys).toNat = Y at *
 have hyl : 0 < (dg Y).length := by
  rcases Nat.eq_zero_or_pos (dg Y).length with h0 | h0
  · exact absurd (dg_eq_nil.1 (List.length_eq_zero_iff.1 h0)) (by omega)
  · exact h0
 have hyz : (((dg Y).length : Int) == 0) = false := by rw [beq_eq_false_iff_ne]; omega
 have hmk := fun W => run_makeL (P := Tryz.prog) 39 133 Tryz.underlying39 info96 ((dg X).length : Int) (dg X).length (by omega) (by omega) W
 go_enter Tryz.func155, Tryz.ntmps155
 go_wp2_with fail
 refine HN2.out.mono ?_
 clear HN2
 rintro e w1 ⟨B1, d1, rfl, g1, g2⟩
 have HY := Lib.hid g1
 have HB := Lib.hid g2
 clear g1 g2
 go_wp2_with fail
 refine (HN1.out w1 HB.out).mono ?_
 clear HN1
 rintro e w2 ⟨A1, c1, rfl, g1, g2⟩
 have HX := Lib.hid g1
 replace HY := Lib.hid (HY.out.below g2)
 replace HB := Lib.hid (HB.out.trans (g2.mono HB.out.size))
 clear g1 g2
 go_upto_if 27 with (fail)
 clear hmk
 go_cut [8] (fun s8 wc => ∃ hi : Nat, s8 = .int .i64 hi ∧ hi ≤ (dg X).length ∧ hi + 1 ≤ (dg Y).length ∧ Hid (wc = w2.alloc (.cells (madeCells #[.int .u32 0] (dg X).length) 133)))
 case first =>
  by_cases hlt : (dg X).length < (dg Y).length - 1
  · have hlt' : decide (((dg X).length : Int) < ((dg Y).length : Int) - 1) = true := by simp; omega
    go_wp2
    go_meet
    case rel => exact ⟨(dg X).length, rfl, by omega, by omega, rfl⟩
  · have hlt' : decide (((dg X).length : Int) < ((dg Y).length : Int) - 1) = false := by simp; omega
    go_wp2
    go_meet
    case rel => exact ⟨(dg Y).length - 1, by go_num, by omega, by omega, rfl⟩
 case rest =>
  obtain ⟨hi, rfl, hh1, hh2, HW⟩ := hcut
  have hw := HW.out
  subst hw
  clear HW
  have hal := Lib.hid ((Below.refl _ w2).alloc (Nat.le_refl _) (.cells (madeCells #[.int .u32 0] (dg X).length) 133))
  have HQ := Lib.hid (own_zeros w2 (dg X).length 133)
  have HX2 := HX
  have HY2 := HY
  replace HX := Lib.hid (HX.out.below hal.out)
  have hgs : w2.heap.size < (w2.alloc (.cells (madeCells #[.int .u32 0] (dg X).length) 133)).heap.size := by simp
  generalize w2.alloc (.cells (madeCells #[.int .u32 0] (dg X).length) 133) = w3 at *
  have q1 : IntKind.i64.wrap (((dg X).length : Int) - (hi : Int)) = (((dg X).length - hi : Nat) : Int) := by rw [i64w (by omega) (by omega)]; omega
  obtain ⟨n0, hn0⟩ : ∃ n0, n0 = (dg X).length - hi := ⟨_, rfl⟩
  rw [← hn0] at q1
  have hnl : (dg X).length - n0 = hi := by omega
  have hn0' : n0 ≤ (dg X).length := by omega
  have hcx := HX.out.cap
  have hdl : ((dg X).drop n0).length = (dg X).length - n0 := by simp
  have hdr : In w3 (A1.map (fun x => x.add n0)) (c1 - n0) ((dg X).drop n0) := ⟨Rn.drop HX.out.row n0, HX.out.lim.drop n0, by rw [hdl]; omega⟩
  have hR1 := Lib.hid (r1_NormNF (A1.map (fun x => x.add n0)) (c1 - n0) ((dg X).drop n0) w3 hdr (by rw [hdl]; omega))
  have hR2 := Lib.hid (show (dg X).length - n0 = 0 → Calls Tryz.prog 133 #[.slice A1 ((dg X).length - n0) 0] w3 fun e w' => ToldNF w3 (V ((dg X).drop n0)).toNat e w' from fun h0 => by
   have e0 : (dg X).drop n0 = [] := List.length_eq_zero_iff.1 (by rw [hdl]; exact h0)
   rw [h0, e0]
   exact r1_NormNF A1 0 [] w3 (In.nil _ _ _) (by simp))
  rw [hdl] at hR1
  have hr0 := Lib.hid (show V ((dg X).drop n0) = ((X / 2 ^ (32 * n0) : Nat) : Int) from by
   have h1 := V_split (dg X) n0 hn0'
   have h2 := V_take_lt (Lim_dg X) n0
   rw [V_dg] at h1
   have h3 : Bp n0 = ((2 ^ (32 * n0) : Nat) : Int) := by
    rw [Nat.pow_mul]; unfold Bp; rw [Int.natCast_pow]; rfl
   rw [h3] at h1 h2
   have h4 : (0 : Int) < ((2 ^ (32 * n0) : Nat) : Int) := by rw [← h3]; exact Bp_pos _
   rw [Int.natCast_ediv, h1, Int.add_mul_ediv_left _ _ (by omega), Int.ediv_eq_zero_of_lt h2.1 h2.2, Int.zero_add])
  rw [hr0.out, Int.toNat_natCast] at hR1 hR2
  have hrY := Lib.hid (show X / 2 ^ (32 * n0) < Y from by
   have h1 := V_lt (HX.out.lim.drop n0)
   rw [hdl, hr0.out] at h1
   have h2 : Bp ((dg X).length - n0) ≤ Bp ((dg Y).length - 1) := Bp_le (by omega)
   have h3 := dg_ge hY0
   omega)
  clear hdr hdl hr0
  go_upto_region 9 with (fail)
  go_cut [9] (fun s9 wc => ∃ (A9 : Option Addr) (c9 : Nat), s9 = .slice A9 (dg (X / 2 ^ (32 * n0))).length c9 ∧ Hid (In wc A9 c9 (dg (X / 2 ^ (32 * n0)))) ∧ Hid (Fresh9 w2.heap.size A9) ∧ Hid (OwnN wc w2.heap.size (List.replicate (dg X).length 0)) ∧ Hid (Below w2.heap.size w2 wc))
  case first =>
   have HN0 := Lib.hid hn0
   clear hn0 hyz
   rw [hnl] at hR1 hR2
   by_cases hcc : n0 < c1
   · have hcc2 : n0 ≠ c1 := by omega
     go_wp2_with fail
     refine hR1.out.mono ?_
     rintro e W1 ⟨A9, c9, rfl, g1, g2, g3⟩
     have G1 := Lib.hid g1
     have G3 := Lib.hid (g3 _ hgs)
     have G4 := Lib.hid (Own.below HQ.out g2 hgs)
     have G5 := Lib.hid (hal.out.trans (g2.mono (Nat.le_of_lt hgs)))
     clear g1 g2 g3
     go_wp2
     go_meet
     case rel => exact ⟨A9, c9, rfl, G1, G3, G4, G5⟩
   · have hcc2 : c1 = n0 := by omega
     subst hcc2
     have hi0 : hi = 0 := by omega
     subst hi0
     go_wp2_with fail
     refine (hR2.out trivial).mono ?_
     rintro e W1 ⟨A9, c9, rfl, g1, g2, g3⟩
     have G1 := Lib.hid g1
     have G3 := Lib.hid (g3 _ hgs)
     have G4 := Lib.hid (Own.below HQ.out g2 hgs)
     have G5 := Lib.hid (hal.out.trans (g2.mono (Nat.le_of_lt hgs)))
     clear g1 g2 g3
     go_wp2
     go_meet
     case rel => exact ⟨A9, c9, rfl, G1, G3, G4, G5⟩
  case rest =>
   clear hR1 hR2 HQ HX HY hal hcx hgs
   obtain ⟨A9, c9, rfl, G1, G3, G4, G5⟩ := hcut
   have HN0 := Lib.hid hn0
   clear hn0
   have hgw : w.heap.size ≤ w2.heap.size := HB.out.size
   have hcl := HX2.out.cap
   have hcl2 := HY2.out.cap
   go_wp2
   clear q1
   go_loopg [9, 10] (32 * n0) (fun gg s9 s10 wr => ∃ (k : Nat) (i : Int) (r Q : Nat) (A9 : Option Addr) (c9 : Nat) (qs : List Int), i + 1 = k ∧ k ≤ 32 * n0 ∧ k ≤ gg ∧ s10 = .int .i64 i ∧ s9 = .slice A9 (dg r).length c9 ∧ qs.length ≤ (dg X).length ∧ (dg X).length ≤ qs.length ∧ r < Y ∧
    Hid (In wr A9 c9 (dg r)) ∧ Hid (Fresh9 w2.heap.size A9) ∧ Hid (OwnN wr w2.heap.size qs) ∧ Hid (Below w2.heap.size w2 wr) ∧ Hid (Lim qs) ∧ Hid (X / 2 ^ k = Q * Y + r) ∧ Hid (V qs = ((Q * 2 ^ k : Nat) : Int)))
   case atStart =>
    exact ⟨32 * n0, 32 * (n0 : Int) - 1, X / 2 ^ (32 * n0), 0, A9, c9, List.replicate (dg X).length 0, by omega, by omega, by omega, by go_num, rfl, by simp, by simp, hrY.out, G1, G3, G4, G5, Lim.zeros _, by show _ = _; simp, by show _ = _; rw [V_zeros]; simp⟩
   case round =>
    clear G1 G3 G4 G5
    obtain ⟨k, i, r, Q, A9, c9, qs, hk, hkn, hg, rfl, rfl, hl1, hl2, hr, HR, HF, HQ, HBw, HL, HE, HV⟩ := hrel
    by_cases h0 : k = 0
    · have hi1 : i = -1 := by omega
      subst hi1
      have hN := Lib.hid (r1_NormN (some ⟨w2.heap.size, 0, none⟩) (dg X).length qs wr ⟨OwnN.row HQ.out, HL.out, hl1⟩ (by omega))
      have e1 : Hid (X / Y = Q ∧ X % Y = r) := by
       show _ ∧ _
       have h1 := HE.out
       rw [h0, Nat.pow_zero, Nat.div_one] at h1
       rw [h1, Nat.mul_comm]
       exact ⟨by rw [Nat.mul_add_div hY0, Nat.div_eq_of_lt hr]; omega, by rw [Nat.mul_add_mod, Nat.mod_eq_of_lt hr]⟩
      have e2 : (V qs).toNat = Q := by rw [HV.out, h0]; simp
      rw [e2, show qs.length = (dg X).length by omega] at hN
      go_wp2_with fail
      refine hN.out.mono ?_
      rintro e W1 ⟨A7, c7, rfl, g1, g2⟩
      have K1 := Lib.hid g1
      have K2 := Lib.hid (HR.out.below g2)
      have K3 := Lib.hid (HB.out.trans ((HBw.out.trans (g2.mono HBw.out.size)).mono hgw))
      clear g1 g2
      go_wp2
      unfold ToldD
      rw [e1.out.1, e1.out.2]
      refine bodyPost_ret (results_tmp3 rfl _ _ _) rfl ?_
      exact ⟨A7, c7, A9, c9, rfl, K1.out, K2.out, K3.out⟩
    · obtain ⟨m, rfl⟩ : ∃ m, k = m + 1 := ⟨k - 1, by omega⟩
      obtain rfl : i = (m : Int) := by omega
      have hX3 := Lib.hid (HX2.out.below HBw.out)
      have hY3 := Lib.hid (HY2.out.below HBw.out)
      have hbit := Lib.hid (r1_bitNN A1 c1 X m wr hX3.out (by omega) (by omega))
      obtain ⟨b, hb⟩ : ∃ b : Bool, b = decide (X / 2 ^ m % 2 = 1) := ⟨_, rfl⟩
      have hlr : (dg r).length ≤ 549755813888 := Nat.le_trans (dg_length_mono (by omega)) l2
      have htw := Lib.hid (r1_twiceNF A9 c9 r b wr HR.out (by omega))
      have hstep : Hid (X / 2 ^ m = 2 * (Q * Y) + (2 * r + (if b then 1 else 0))) := by
       show _ = _
       have h1 := HE.out
       rw [Nat.pow_succ, ← Nat.div_div_eq_div_mul] at h1
       have h2 : (if b then 1 else 0) = X / 2 ^ m % 2 := by
        rw [hb]
        by_cases h3 : X / 2 ^ m % 2 = 1
        · simp [h3]
        · simp [h3]; omega
       rw [h2]
       omega
      rw [← hb] at hbit
      have hr2 : 2 * r + (if b then 1 else 0) < 2 * Y := by split <;> omega
      clear hb hk
      generalize 2 * r + (if b then 1 else 0) = r2 at *
      have lr2 : (dg r2).length ≤ 1099511627776 := by
       have h1 := dg_lt Y
       have h2 := Bp_le l2
       have h3 := Bp_succ 549755813888
       have h4 := Bp_pos 549755813888
       have h5 : (dg r2).length ≤ 549755813888 + 1 := dg_length_le (by omega)
       omega
      go_wp2_with fail
      refine hbit.out.mono ?_
      rintro e w' ⟨rfl, rfl⟩
      go_wp2_with fail
      refine htw.out.mono ?_
      rintro e W1 ⟨A8, c8, rfl, g1, g2, g3⟩
      have K1 := Lib.hid g1
      have K2 := Lib.hid (g3 _ (HQ.out.lt))
      have K3 := Lib.hid (Own.below HQ.out g2 HQ.out.lt)
      have K4 := Lib.hid (HBw.out.trans (g2.mono HBw.out.size))
      have K5 := Lib.hid (hY3.out.below g2)
      clear g1 g2 g3 hbit htw HR HF HQ HBw hX3 hY3
      have hcm := Lib.hid (r1_cmpN A8 c8 r2 B1 d1 Y W1 K1.out lr2 K5.out (by omega))
      by_cases hge : Y ≤ r2
      · have hsg : 0 ≤ sgn ((r2 : Int) - Y) := by unfold sgn; repeat' split <;> omega
        generalize sgn ((r2 : Int) - Y) = sg at *
        have hsb := Lib.hid (r1_subNF A8 c8 r2 B1 d1 Y W1 K1.out lr2 K5.out (by omega) hge)
        go_wp2_with fail
        refine hcm.out.mono ?_
        rintro e w' ⟨rfl, rfl⟩
        go_wp2_with fail
        refine hsb.out.mono ?_
        rintro e W2 ⟨A7, c7, rfl, g1, g2, g3⟩
        have M1 := Lib.hid g1
        have M2 := Lib.hid (g3 _ K3.out.lt)
        have M3 := Lib.hid (Own.below K3.out g2 K3.out.lt)
        have M4 := Lib.hid (K4.out.trans (g2.mono K4.out.size))
        clear g1 g2 g3 hcm hsb K1 K2 K3 K4 K5
        have q1 : (m : Int) / 32 = ((m / 32 : Nat) : Int) := by omega
        have q2 : (m : Int) % 32 = ((m % 32 : Nat) : Int) := by omega
        have q3 : m % 32 < 32 := by omega
        have q4 : m / 32 < (dg X).length := by omega
        have q5 := Lib.hid (show 32 * (m / 32) + m % 32 = m by omega)
        generalize m / 32 = j at *
        generalize m % 32 = s at *
        have c3 := OwnN.cell M3.out j (by omega)
        have c4 := Own.frozen M3.out j
        have b3 := HL.out.get j (by omega)
        have hbj : (Bp j * 2 ^ (s + 1) : Int) = ((2 ^ (m + 1) : Nat) : Int) := by
         have h1 : Bp j = ((2 ^ (32 * j) : Nat) : Int) := by rw [Nat.pow_mul]; unfold Bp; rw [Int.natCast_pow]; rfl
         rw [h1, ← q5.out, show 32 * j + s + 1 = 32 * j + (s + 1) by omega, Nat.pow_add, Int.natCast_mul, Int.natCast_pow 2 (s + 1)]; rfl
        have hbm : (Bp j * 2 ^ s : Int) = ((2 ^ m : Nat) : Int) := by
         have h1 : Bp j = ((2 ^ (32 * j) : Nat) : Int) := by rw [Nat.pow_mul]; unfold Bp; rw [Int.natCast_pow]; rfl
         rw [h1, ← q5.out, Nat.pow_add, Int.natCast_mul, Int.natCast_pow 2 s]; rfl
        have hlow : (qs[j]'(by omega)) % 2 ^ (s + 1) = 0 := by
         have h1 := V_split qs j (by omega)
         rw [V_drop (show j < qs.length by omega)] at h1
         exact low_zero (Q := (Q : Int)) q3 (V_take_lt HL.out j) h1 (by rw [HV.out, hbj, Int.natCast_mul])
        have hst := V_set (xs := qs) (i := j) (by omega) (qs[j]'(by omega) + 2 ^ s)
        have ho := or_bit q3 b3.1 b3.2 hlow
        generalize qs[j]'(by omega) = z at *
        obtain ⟨y, hy⟩ : ∃ y, y = z + 2 ^ s := ⟨_, rfl⟩
        rw [← hy] at ho hst
        have ho1 := ho.1
        have hyb : 0 ≤ y ∧ y < 4294967296 := ⟨by have := pow2_pos s; omega, ho.2⟩
        have hV2 : Hid (V (qs.set j y) = (((2 * Q + 1) * 2 ^ m : Nat) : Int)) := by
         show _ = _
         have h1 : y - z = 2 ^ s := by omega
         rw [hst, h1, HV.out, hbm, Nat.pow_succ, ← Int.natCast_add]
         congr 1
         rw [Nat.add_mul, Nat.mul_comm (2 ^ m) 2, ← Nat.mul_assoc, Nat.mul_comm Q 2, Nat.one_mul]
        have hE2 : Hid (X / 2 ^ m = (2 * Q + 1) * Y + (r2 - Y)) := by
         show _ = _
         have h1 : (2 * Q + 1) * Y = 2 * (Q * Y) + Y := by rw [Nat.add_mul, Nat.one_mul, Nat.mul_assoc]
         rw [hstep.out, h1]; omega
        have hrl : r2 - Y < Y := by omega
        clear hst ho hy hlow hbj hbm
        generalize r2 - Y = r3 at *
        go_wp2
        go_roundg m
        case measure => omega
        case rel => exact ⟨m, (m : Int) - 1, r3, 2 * Q + 1, A7, c7, qs.set j y, by omega, by omega, by omega, by go_num, rfl, by simpa using hl1, by simpa using hl2, hrl, M1.out.apart M2.out _ _, M2, OwnN.set M3.out _ _, M4.out.setCell (Nat.le_refl _) _, HL.out.set _ hyb.1 hyb.2, hE2, hV2⟩
      · have hsg : ¬ (0 ≤ sgn ((r2 : Int) - Y)) := by unfold sgn; repeat' split <;> omega
        generalize sgn ((r2 : Int) - Y) = sg at *
        have hE2 : Hid (X / 2 ^ m = 2 * Q * Y + r2) := by show _ = _; rw [hstep.out, Nat.mul_assoc]
        have hV2 : Hid (V qs = ((2 * Q * 2 ^ m : Nat) : Int)) := by
         show _ = _; rw [HV.out, Nat.pow_succ]; congr 1; rw [Nat.mul_comm (2 ^ m), Nat.mul_comm 2 Q, Nat.mul_assoc]
        go_wp2_with fail
        refine hcm.out.mono ?_
        rintro e w' ⟨rfl, rfl⟩
        go_wp2
        go_roundg m
        case measure => omega
        case rel => exact ⟨m, (m : Int) - 1, r2, 2 * Q, A8, c8, qs, by omega, by omega, by omega, by go_num, rfl, hl1, hl2, by omega, K1, K2, K3, K4, HL, hE2, hV2⟩
end Go.Proofs.YtidgpkccjcddgaaGreatDoor.F

/- The walks of package nat, fifth part: digit. Conditions: the limbs are limbs, the divisor's highest limb has its highest bit, the quotient is one limb. -/
import Derived.Test.YtidgpkccjcddgaaGreatDoorGb
import Derived.Deep.RegionHeld3
set_option linter.unusedVariables false
set_option linter.unusedSimpArgs false
namespace Go.Proofs.YtidgpkccjcddgaaGreatDoor.F
open Go.RowKit Go.Shelf
theorem OwnN.cellAt {w : World} {g o : Nat} {pre es post : List Int} (h : OwnN w g (pre ++ (es ++ post))) (ho : pre.length = o) (i : Nat) (hi : i < es.length) : w.cell? ⟨g, o + i, none⟩ = some (.int .u32 es[i]) := by
 subst ho
 rw [OwnN.cell h (pre.length + i) (by simp; omega)]
 simp [List.getElem_append, hi]
theorem OwnN.setAt {w : World} {g o : Nat} {pre es post : List Int} (h : OwnN w g (pre ++ (es ++ post))) (ho : pre.length = o) (i : Nat) (hi : i < es.length) (y : Int) : OwnN (w.setCell ⟨g, o + i, none⟩ (.int .u32 y)) g (pre ++ (es.set i y ++ post)) := by
 subst ho
 have := OwnN.set h (pre.length + i) y
 rwa [List.set_append_right _ _ (by omega), Nat.add_sub_cancel_left, List.set_append_left _ _ hi] at this
theorem grown_set {a w : World} {g : Nat} (h : a.grownBy w (some g)) (i : Nat) (u : Value) : a.grownBy (w.setCell ⟨g, i, none⟩ u) (some g) :=
 ⟨h.os, h.tape, h.output, by simpa [World.setCell] using h.size, fun k hk hne => (Below.heap_setCell w _ u k (by intro e; exact hne (by rw [e]))).trans (h.block k hk hne)⟩
theorem grown_drewN {a w : World} {row : Option Nat} (h : a.grownBy w row) (n : Nat) : a.grownBy (w.drewN n) row := ⟨h.os, h.tape, h.output, h.size, h.block⟩
theorem grown_drew {a w : World} {row : Option Nat} (h : a.grownBy w row) : a.grownBy w.drew row := ⟨h.os, h.tape, h.output, h.size, h.block⟩
theorem grown_refl (w : World) (row : Option Nat) : w.grownBy w row := ⟨rfl, rfl, rfl, Nat.le_refl _, fun _ _ _ => rfl⟩
theorem cell_grown {w w1 : World} {g : Nat} (h : w.grownBy w1 (some g)) {a : Addr} {v : Value} (hne : a.block ≠ g) (hc : w.cell? a = some v) : w1.cell? a = some v :=
 (World.cell?_of_block (w := w) (h.block a.block (World.block_lt_of_cell? w a hc) (by intro e; injection e with e; exact hne e))).trans hc
theorem add_block (a : Addr) (n : Nat) : (a.add n).block = a.block := by unfold Addr.add; split <;> rfl
theorem Rn.grown {w w1 : World} {g : Nat} (h : w.grownBy w1 (some g)) {bd : Addr} {vs : List Int} (hne : bd.block ≠ g) (hv : Rn w (some bd) vs) : Rn w1 (some bd) vs := by
 intro i hi
 obtain ⟨ad, cs, e, hC, hc⟩ := hv i hi
 cases e
 exact ⟨bd, cs, rfl, hC, fun j u hu => cell_grown h (by rw [add_block]; exact hne) (hc j u hu)⟩
theorem divs {a b q : Int} (h0 : 0 ≤ a - q * b) (h1 : a - q * b < b) : a / b = q ∧ a % b = a - q * b := by
 have hb : 0 < b := by omega
 have e : a = (a - q * b) + q * b := by omega
 constructor
 · rw [e, Int.add_mul_ediv_right _ _ (by omega), Int.ediv_eq_zero_of_lt h0 h1]; omega
 · rw [e, Int.add_mul_emod_self_right, Int.emod_eq_of_lt h0 h1]; omega
theorem subm_step {i : Nat} {q x y t tl th d b b' c : Int} {F E W : Int} (ht : t = tl + 4294967296 * th) (hp : t = q * y + c) (hd : x - tl - b = d - 4294967296 * b') (H : F = E - q * W + Bp i * (c + b)) :
 F + Bp i * d = E + Bp i * x - q * (W + Bp i * y) + Bp (i + 1) * (th + b') := by
 rw [Bp_succ, H]
 have h1 : Bp i * (x - tl - b) = Bp i * (d - 4294967296 * b') := by rw [hd]
 have h2 : Bp i * t = Bp i * (tl + 4294967296 * th) := by rw [ht]
 have h3 : Bp i * t = Bp i * (q * y + c) := by rw [hp]
 grind
theorem kn_of {m : Nat} {es vs : List Int} (he : es.length = m + 3) (hv : vs.length = m + 2) (hle : Lim es) (hlv : Lim vs) (htop : 2147483648 ≤ vs[m + 1]'(by omega)) (hlt : V es < 4294967296 * V vs) :
 Kn (es[m + 2]'(by omega)) (es[m + 1]'(by omega)) (es[m]'(by omega)) (vs[m + 1]'(by omega)) (vs[m]'(by omega)) (V es) (V vs) := by
 refine ⟨hle.get _ _, hle.get _ _, hle.get _ _, ⟨htop, (hlv.get _ _).2⟩, hlv.get _ _, ⟨Bp m, V (es.take m), V (vs.take m), Bp_pos m, V_nonneg (hle.take m), ?_, V_nonneg (hlv.take m), ?_, ?_, ?_⟩, hlt⟩
 · have := V_lt (hle.take m)
   rwa [List.length_take, Nat.min_eq_left (by omega)] at this
 · have := V_lt (hlv.take m)
   rwa [List.length_take, Nat.min_eq_left (by omega)] at this
 · rw [V_split es m (by omega), V_drop (show m < es.length by omega), V_drop (show m + 1 < es.length by omega), V_drop (show m + 2 < es.length by omega), List.drop_of_length_le (show es.length ≤ m + 2 + 1 by omega)]
   simp only [V]
   grind
 · rw [V_split vs m (by omega), V_drop (show m < vs.length by omega), V_drop (show m + 1 < vs.length by omega), List.drop_of_length_le (show vs.length ≤ m + 1 + 1 by omega)]
   simp only [V]
   grind
set_option maxHeartbeats 8000000 in
set_option maxRecDepth 100000 in
theorem nat_digit (g o m : Nat) (pre es post : List Int) (cap : Nat) (bd : Addr) (vs : List Int) (c : Nat) (w : World) (ho : pre.length = o) (he : es.length = m + 3) (hv : vs.length = m + 2) (hm : m ≤ 1099511627776) (ho2 : o ≤ 4398046511104)
 (hO : OwnN w g (pre ++ (es ++ post))) (hle : Lim es) (hV : Rn w (some bd) vs) (hbd : bd.block ≠ g) (hlv : Lim vs) (htop : 2147483648 ≤ vs[m + 1]'(by omega)) (hlt : V es < 4294967296 * V vs) :
 Calls Tryz.prog 257 #[.slice (some ⟨g, o, none⟩) (m + 3) cap, .slice (some bd) (m + 2) c] w fun e w' =>
  ∃ fs : List Int, e = .returned (.int .u32 (V es / V vs)) ∧ fs.length = m + 3 ∧ Lim fs ∧ V fs = V es % V vs ∧ OwnN w' g (pre ++ (fs ++ post)) ∧ w.grownBy w' (some g) := by
 have HK := Lib.hid (kn_of he hv hle hlv htop hlt)
 have a0 := OwnN.cellAt hO ho (m + 2) (by omega)
 have a1 := OwnN.cellAt hO ho (m + 1) (by omega)
 have a2 := OwnN.cellAt hO ho m (by omega)
 have d1 : w.cell? (bd.add (m + 1)) = some (.int .u32 (vs[m + 1]'(by omega))) := by obtain ⟨ad, e, h⟩ := Knd.at_int hV (m + 1) (by omega); cases e; exact h
 have d2 : w.cell? (bd.add m) = some (.int .u32 (vs[m]'(by omega))) := by obtain ⟨ad, e, h⟩ := Knd.at_int hV m (by omega); cases e; exact h
 have d3 : w.cell? ⟨bd.block, bd.off + (m + 1), none⟩ = some (.int .u32 (vs[m + 1]'(by omega))) := by rw [← d1]; simp [Addr.add]
 have b0 := hle.get (m + 2) (by omega)
 have b1 := hle.get (m + 1) (by omega)
 have b2 := hle.get m (by omega)
 have e1 := hlv.get (m + 1) (by omega)
 have e2 := hlv.get m (by omega)
 have HO := Lib.hid hO
 have HV := Lib.hid hV
 have Hle := Lib.hid hle
 have Hlv := Lib.hid hlv
 have Hbd := Lib.hid hbd
 have Hho := Lib.hid ho
 have Hhe := Lib.hid he
 have Hhv := Lib.hid hv
 have Hlt := Lib.hid hlt
 have hlen : pre.length ≤ o ∧ o ≤ pre.length := by omega
 have Hu0 : Hid (es.getD (m + 2) 0 = es[m + 2]'(by omega)) := by show _ = _; simp [List.getD, List.getElem?_eq_getElem (show m + 2 < es.length by omega)]
 generalize es[m + 2]'(by omega) = u0 at *
 generalize es[m + 1]'(by omega) = u1 at *
 generalize es[m]'(by omega) = u2 at *
 generalize vs[m + 1]'(by omega) = v1 at *
 generalize vs[m]'(by omega) = v2 at *
 clear hO hle hV hlv hbd ho he hv hlt hlen
 go_enter Tryz.func257, Tryz.ntmps257
 go_upto_region 2 with (fail)
 go_quiet (fail)
 rw [join64 u0 u1 b0 b1]
 have t0 : 0 ≤ u0 * 4294967296 + u1 := by omega
 have hI := HK.out.init
 have hv1 := HK.out.bv1.1
 obtain ⟨i1, i2, i3, i4, _, _⟩ := hI
 have t1 : u0 * 4294967296 + u1 < 18446744073709551616 := by omega
 have t2 : v1 < 4294967296 := HK.out.bv1.2
 have t3 : 0 < v1 := by omega
 have i5 : (u0 * 4294967296 + u1) / v1 < 18446744073709551616 := by omega
 go_upto_region 3 with (fail)
 go_quiet (fail)
 go_upto_block 0 with (fail)
 go_cut [7] (fun s7 wc => ∃ q : Int, s7 = .int .u64 q ∧ Hid (KnQ u0 u1 u2 v1 v2 (V es) (V vs) q) ∧ Hid (Dr w wc))
 case first =>
  go_wp2
  go_loopg [7, 8] 4294967299 (fun gg s7 s8 wr => ∃ q r : Int, q ≤ gg ∧ s7 = .int .u64 q ∧ s8 = .int .u64 r ∧ 0 ≤ q ∧ q ≤ 4294967297 ∧ 0 ≤ r ∧ r < 4294967296 ∧ Hid (KnI u0 u1 v1 (V es) (V vs) q r) ∧ Hid (Dr w wr))
  case atStart => exact ⟨_, _, by omega, rfl, rfl, i1, i2, i3, i4, HK.out.init, by show Dr _ _; repeat (first | exact Dr.refl _ | apply Dr.step)⟩
  case round =>
   obtain ⟨q, r, hg, rfl, rfl, q0, q1, r0, r1, HI, HW⟩ := hrel
   obtain ⟨nn, rfl⟩ := HW.out
   clear HW i1 i2 i3 i4
   by_cases hq : 4294967296 ≤ q
   · have hs := Lib.hid (HK.out.step HI.out (.inl hq))
     have q2 : 1 ≤ q := by omega
     have f1 : (q / 4294967296 != 0) = true := by rw [bne_iff_ne]; omega
     by_cases hr : r + v1 < 4294967296
     · have f2 : ((r + v1) / 4294967296 != 0) = false := by rw [bne_eq_false_iff_eq]; omega
       have HN := Lib.hid (HI.out.next HK.out hs.out hr)
       go_wp2
       go_quiet (fail)
       go_wp2
       go_roundg (q - 1).toNat
       case measure => omega
       case rel => exact ⟨q - 1, r + v1, by omega, rfl, rfl, by omega, by omega, by omega, hr, HN.out, by show Dr _ _; repeat (first | exact Dr.refl _ | apply Dr.step)⟩
     · have f2 : ((r + v1) / 4294967296 != 0) = true := by rw [bne_iff_ne]; omega
       have HN := Lib.hid (HI.out.broke HK.out hs.out (by omega))
       go_wp2
       go_quiet (fail)
       go_wp2
       go_meet
       case rel => exact ⟨q - 1, rfl, HN.out, by show Dr _ _; repeat (first | exact Dr.refl _ | apply Dr.step)⟩
   · have f1 : (q / 4294967296 != 0) = false := by rw [bne_eq_false_iff_eq]; omega
     have hmul := mul_le_max (x := q) (y := v2) ⟨q0, by omega⟩ e2
     obtain ⟨p, hp⟩ : ∃ p, p = q * v2 := ⟨_, rfl⟩
     have HP := Lib.hid hp
     rw [← hp] at hmul
     clear hp
     have p1 : IntKind.u64.wrap (q * v2) = p := by rw [← HP.out, u64w (by omega) (by omega)]
     have p2 := join64 r u2 ⟨r0, r1⟩ b2
     have p3 : 0 ≤ r * 4294967296 + u2 := by omega
     have p4 : r * 4294967296 + u2 < 18446744073709551616 := by omega
     by_cases ht : r * 4294967296 + u2 < p
     · have hs := Lib.hid (HK.out.step HI.out (.inr ⟨by omega, by rw [← HP.out]; exact ht⟩))
       have q2 : 1 ≤ q := hs.out.1
       have f3 : decide (r * 4294967296 + u2 < p) = true := by simpa using ht
       by_cases hr : r + v1 < 4294967296
       · have f2 : ((r + v1) / 4294967296 != 0) = false := by rw [bne_eq_false_iff_eq]; omega
         have HN := Lib.hid (HI.out.next HK.out hs.out hr)
         go_wp2
         go_quiet (fail)
         go_wp2
         go_roundg (q - 1).toNat
         case measure => omega
         case rel => exact ⟨q - 1, r + v1, by omega, rfl, rfl, by omega, by omega, by omega, hr, HN.out, by show Dr _ _; repeat (first | exact Dr.refl _ | apply Dr.step)⟩
       · have f2 : ((r + v1) / 4294967296 != 0) = true := by rw [bne_iff_ne]; omega
         have HN := Lib.hid (HI.out.broke HK.out hs.out (by omega))
         go_wp2
         go_quiet (fail)
         go_wp2
         go_meet
         case rel => exact ⟨q - 1, rfl, HN.out, by show Dr _ _; repeat (first | exact Dr.refl _ | apply Dr.step)⟩
     · have HQ := Lib.hid (HI.out.stop HK.out (by omega) (by rw [← HP.out]; omega))
       have f3 : decide (r * 4294967296 + u2 < p) = false := by simpa using ht
       go_wp2
       go_quiet (fail)
       go_wp2
       go_meet
       case rel => exact ⟨q, rfl, HQ.out, by show Dr _ _; repeat (first | exact Dr.refl _ | apply Dr.step)⟩
 case rest =>
  obtain ⟨q, rfl, HQ, HW⟩ := hcut
  obtain ⟨nn, rfl⟩ := HW.out
  have q0 := HQ.out.1
  have q1 := HQ.out.2.1
  have HN := Lib.hid (HQ.out.near HK.out)
  clear HW a0 a1 a2 d1 d2 d3 i1 i2 i3 i4 i5 t0 t1
  go_wp2
  go_loopg [9, 10, 83] (m + 2) (fun gg s9 s10 s83 wr => ∃ (i : Nat) (bo cy : Int) (fs : List Int), i ≤ m + 2 ∧ m + 2 - i ≤ gg ∧ s83 = .int .i64 i ∧ s9 = .int .u32 bo ∧ s10 = .int .u64 cy ∧ 0 ≤ bo ∧ bo ≤ 1 ∧ 0 ≤ cy ∧ cy < 4294967296 ∧ fs.length ≤ m + 3 ∧ m + 3 ≤ fs.length ∧
   Hid (OwnN wr g (pre ++ (fs ++ post))) ∧ Hid (w.grownBy wr (some g)) ∧ Hid (Lim fs) ∧ Hid (V (fs.take i) = V (es.take i) - q * V (vs.take i) + Bp i * (cy + bo)) ∧ Hid (∀ j, i ≤ j → fs.getD j 0 = es.getD j 0))
  case atStart =>
   exact ⟨0, 0, 0, es, Nat.zero_le _, by omega, rfl, rfl, rfl, by omega, by omega, by omega, by omega, by have := Hhe.out; omega, by have := Hhe.out; omega, Own.drewN HO.out _, grown_drewN (grown_refl _ _) _, Hle, by show _ = _; simp [V], fun _ _ => rfl⟩
  case round =>
   obtain ⟨i, bo, cy, fs, hi, hg, rfl, rfl, rfl, hbo0, hbo1, hcy0, hcy1, hl1, hl2, HO1, HG1, HL, HE, HS⟩ := hrel
   by_cases hlt : i < m + 2
   · have hltz : (i : Int) < (m : Int) + 2 := by omega
     have c1 := OwnN.cellAt HO1.out Hho.out i (by omega)
     have c4 : wr.frozen? ⟨g, o + i, none⟩ = false := Own.frozen HO1.out _
     obtain ⟨ad, ead, c2⟩ := Knd.at_int (HV.out.grown HG1.out Hbd.out) i (by have := Hhv.out; omega)
     cases ead
     have b3 := HL.out.get i (by omega)
     have b4 := Hlv.out.get i (by have := Hhv.out; omega)
     have EV := Lib.hid (V_take_getD es i)
     have VV := Lib.hid (V_take_succ (xs := vs) (i := i) (by have := Hhv.out; omega))
     rw [← HS.out i (Nat.le_refl _), show fs.getD i 0 = fs[i]'(by omega) by simp [List.getD, List.getElem?_eq_getElem (show i < fs.length by omega)]] at EV
     have hst := Lib.hid (fun (y : Int) => V_take_set_succ (xs := fs) (k := i) (by omega) y)
     generalize fs[i]'(by omega) = x at *
     generalize vs[i]'(by have := Hhv.out; omega) = y at *
     have hmul := mul_le_max (x := q) (y := y) ⟨q0, by omega⟩ b4
     obtain ⟨p, hp⟩ : ∃ p, p = q * y := ⟨_, rfl⟩
     have HP := Lib.hid hp
     rw [← hp] at hmul
     clear hp
     have p1 : IntKind.u64.wrap (q * y) = p := by rw [← HP.out, u64w (by omega) (by omega)]
     have HA := Lib.hid (bits_Sub32 x ((p + cy) % 4294967296) bo wr b3 ⟨by omega, by omega⟩ ⟨hbo0, hbo1⟩)
     go_wp2_with fail
     refine HA.out.mono ?_
     clear HA
     rintro e w' ⟨rfl, rfl⟩
     go_wp2
     go_roundg (m + 2 - (i + 1))
     case measure => omega
     case rel =>
      refine ⟨i + 1, bor x ((p + cy) % 4294967296 + bo), (p + cy) / 4294967296, fs.set i ((x - (p + cy) % 4294967296 - bo) % 4294967296), by omega, by omega, by go_num, rfl, rfl, by unfold bor; split <;> omega, by unfold bor; split <;> omega, by omega, by omega, by simpa using hl1, by simpa using hl2,
       OwnN.setAt HO1.out Hho.out i (by omega) _, grown_set HG1.out _ _, HL.out.set _ (by omega) (by omega), ?_, ?_⟩
      · show _ = _
        rw [hst.out, EV.out, VV.out]
        exact subm_step (tl := (p + cy) % 4294967296) (t := p + cy) (by omega) (by rw [← HP.out]) (by unfold bor; split <;> omega) HE.out
      · intro j hj
        rw [List.getD, List.getElem?_set_ne (by omega)]
        exact HS.out j (by omega)
   · have hltz : ¬ (i : Int) < (m : Int) + 2 := by omega
     have hkl : i = m + 2 := by omega
     subst hkl
     have c1 := OwnN.cellAt HO1.out Hho.out (m + 2) (by omega)
     have c4 : wr.frozen? ⟨g, o + (m + 2), none⟩ = false := Own.frozen HO1.out _
     have e5 : Hid (fs[m + 2]'(by omega) = u0) := by
      show _ = _
      have := HS.out (m + 2) (Nat.le_refl _)
      simp only [List.getD, List.getElem?_eq_getElem (show m + 2 < fs.length by omega)] at this
      rw [show (some (fs[m + 2]'(by omega))).getD 0 = fs[m + 2]'(by omega) from rfl] at this
      rw [this]
      exact Hu0.out
     rw [e5.out] at c1
     have hst := Lib.hid (V_take_set_succ (xs := fs) (k := m + 2) (by omega))
     have EV := Lib.hid (V_take_getD es (m + 2))
     rw [Hu0.out] at EV
     have HD : Hid (V (fs.set (m + 2) ((u0 - cy - bo) % 4294967296)) = V es - q * V vs + Bp (m + 3) * bor u0 (cy + bo)) := by
      show _ = _
      have h1 := hst.out ((u0 - cy - bo) % 4294967296)
      rw [V_take_all (by simp; omega)] at h1
      have h2 := EV.out
      rw [V_take_all (by have := Hhe.out; omega)] at h2
      have h3 := HE.out
      rw [V_take_all (show vs.length ≤ m + 2 by have := Hhv.out; omega)] at h3
      rw [h1, h2]
      have := subm_step (i := m + 2) (q := q) (x := u0) (y := 0) (t := cy) (tl := cy) (th := 0) (c := cy) (b := bo) (d := (u0 - cy - bo) % 4294967296) (b' := bor u0 (cy + bo)) (by omega) (by omega) (by unfold bor; split <;> omega) h3
      rw [Int.mul_zero, Int.add_zero, Int.zero_add] at this
      exact this
     have HA := Lib.hid (bits_Sub32 u0 cy bo wr b0 ⟨hcy0, hcy1⟩ ⟨hbo0, hbo1⟩)
     have LF := Lib.hid (HL.out.set (m + 2) (y := (u0 - cy - bo) % 4294967296) (by omega) (by omega))
     have HO2 := Lib.hid (OwnN.setAt HO1.out Hho.out (m + 2) (by omega) ((u0 - cy - bo) % 4294967296))
     have HG2 := Lib.hid (grown_set HG1.out (o + (m + 2)) (.int .u32 ((u0 - cy - bo) % 4294967296)))
     have hfl : (fs.set (m + 2) ((u0 - cy - bo) % 4294967296)).length = m + 3 := by simp; omega
     have hcy' : cy % 4294967296 = cy := by omega
     generalize fs.set (m + 2) ((u0 - cy - bo) % 4294967296) = hs at *
     have hV0 := Lib.hid (V_nonneg LF.out)
     have hV1 := Lib.hid (V_lt LF.out)
     rw [hfl] at hV1
     have Hfl := Lib.hid hfl
     clear hfl HE HS HO1 HG1 HL e5 hst EV
     by_cases hD : 0 ≤ V es - q * V vs
     · have hb : Hid (bor u0 (cy + bo) = 0) := by
        show _ = _
        have h1 := HD.out
        have h2 := hV1.out
        have h3 := Bp_pos (m + 3)
        unfold bor at h1 ⊢
        split at h1
        · rw [Int.mul_one] at h1; omega
        · rename_i hh; rw [if_neg hh]
       rw [hb.out] at HA HD
       have HR := Lib.hid hD
       clear hD
       go_wp2_with fail
       refine HA.out.mono ?_
       clear HA
       rintro e w' ⟨rfl, rfl⟩
       go_wp2
       go_ret
       have hlt2 : V es - q * V vs < V vs := by
        have h := HN.out.2
        rw [Int.add_mul, Int.one_mul] at h
        omega
       have hde := divs (a := V es) (b := V vs) (q := q) HR.out hlt2
       exact ⟨hs, ret_int (by rw [hde.1]), Hfl.out, LF.out, by have := HD.out; rw [hde.2, this]; omega, HO2.out, HG2.out⟩
     · have hb : Hid (bor u0 (cy + bo) = 1) := by
        show _ = _
        have h1 := HD.out
        have h2 := hV0.out
        unfold bor at h1 ⊢
        split at h1
        · rename_i hh; rw [if_pos hh]
        · rw [Int.mul_zero] at h1; omega
       rw [hb.out] at HA HD
       have HR := Lib.hid hD
       have hq1 : 1 ≤ q := by
        apply Int.le_of_not_gt
        intro hq
        have : q = 0 := by omega
        have h1 := V_nonneg Hle.out
        subst this
        omega
       clear hD
       go_wp2_with fail
       refine HA.out.mono ?_
       clear HA
       rintro e w' ⟨rfl, rfl⟩
       obtain ⟨w3, hw3⟩ : ∃ w3, w3 = w'.setCell ⟨g, o + (m + 2), none⟩ (.int .u32 ((u0 - cy - bo) % 4294967296)) := ⟨_, rfl⟩
       go_wp2
       rw [← hw3] at HO2 HG2 ⊢
       clear hw3 c1 c4
       go_loopg [13, 131] (m + 2) (fun gg s13 s131 wr => ∃ (i : Nat) (cc : Int) (gs : List Int), i ≤ m + 2 ∧ m + 2 - i ≤ gg ∧ s131 = .int .i64 i ∧ s13 = .int .u32 cc ∧ 0 ≤ cc ∧ cc ≤ 1 ∧ gs.length ≤ m + 3 ∧ m + 3 ≤ gs.length ∧
        Hid (OwnN wr g (pre ++ (gs ++ post))) ∧ Hid (w.grownBy wr (some g)) ∧ Hid (Lim gs) ∧ Hid (V (gs.take i) + Bp i * cc = V (hs.take i) + V (vs.take i)) ∧ Hid (∀ j, i ≤ j → gs.getD j 0 = hs.getD j 0))
       case atStart =>
        exact ⟨0, 0, hs, Nat.zero_le _, by omega, rfl, rfl, by omega, by omega, by have := Hfl.out; omega, by have := Hfl.out; omega, HO2, HG2, LF, by show _ = _; simp [V], fun _ _ => rfl⟩
       case round =>
        obtain ⟨i, cc, gs, hi, hg2, rfl, rfl, hcc0, hcc1, hm1, hm2, HO1, HG1, HL, HE, HS⟩ := hrel
        by_cases hlt : i < m + 2
        · have hltz : (i : Int) < (m : Int) + 2 := by omega
          have c1 := OwnN.cellAt HO1.out Hho.out i (by omega)
          have c4 : wr.frozen? ⟨g, o + i, none⟩ = false := Own.frozen HO1.out _
          obtain ⟨ad, ead, c2⟩ := Knd.at_int (HV.out.grown HG1.out Hbd.out) i (by have := Hhv.out; omega)
          cases ead
          have b3 := HL.out.get i (by omega)
          have b4 := Hlv.out.get i (by have := Hhv.out; omega)
          have EV := Lib.hid (V_take_getD hs i)
          have VV := Lib.hid (V_take_succ (xs := vs) (i := i) (by have := Hhv.out; omega))
          rw [← HS.out i (Nat.le_refl _), show gs.getD i 0 = gs[i]'(by omega) by simp [List.getD, List.getElem?_eq_getElem (show i < gs.length by omega)]] at EV
          have hst := Lib.hid (fun (y : Int) => V_take_set_succ (xs := gs) (k := i) (by omega) y)
          generalize gs[i]'(by omega) = x at *
          generalize vs[i]'(by have := Hhv.out; omega) = y at *
          go_wp2
          go_region_with (go_at_call 241; refine (bits_Add32 x y cc _ b3 b4 ⟨hcc0, hcc1⟩).mono ?_; rintro e w' ⟨rfl, rfl⟩)
          all_goals
           go_wp2
           go_roundg (m + 2 - (i + 1))
           case measure => omega
           case rel =>
            refine ⟨i + 1, (x + y + cc) / 4294967296, gs.set i ((x + y + cc) % 4294967296), by omega, by omega, by go_num, rfl, by omega, by omega, by simpa using hm1, by simpa using hm2, ?_, ?_, HL.out.set _ (by omega) (by omega), ?_, ?_⟩
            · first | exact OwnN.setAt HO1.out Hho.out i (by omega) _ | exact Own.drew (OwnN.setAt HO1.out Hho.out i (by omega) _) | exact OwnN.setAt (Own.drew HO1.out) Hho.out i (by omega) _
            · first | exact grown_set HG1.out _ _ | exact grown_drew (grown_set HG1.out _ _) | exact grown_set (grown_drew HG1.out) _ _
            · show _ = _
              rw [hst.out, EV.out, VV.out]
              exact add_step (by omega) HE.out
            · intro j hj
              rw [List.getD, List.getElem?_set_ne (by omega)]
              exact HS.out j (by omega)
        · have hltz : ¬ (i : Int) < (m : Int) + 2 := by omega
          have hkl : i = m + 2 := by omega
          subst hkl
          have c1 := OwnN.cellAt HO1.out Hho.out (m + 2) (by omega)
          have c4 : wr.frozen? ⟨g, o + (m + 2), none⟩ = false := Own.frozen HO1.out _
          have b3 := HL.out.get (m + 2) (by omega)
          have hst := Lib.hid (V_take_set_succ (xs := gs) (k := m + 2) (by omega))
          have EV := Lib.hid (V_take_getD hs (m + 2))
          rw [← HS.out (m + 2) (Nat.le_refl _), show gs.getD (m + 2) 0 = gs[m + 2]'(by omega) by simp [List.getD, List.getElem?_eq_getElem (show m + 2 < gs.length by omega)]] at EV
          generalize gs[m + 2]'(by omega) = x at *
          have HS2 : Hid (V (gs.set (m + 2) ((x + cc) % 4294967296)) = V es - (q - 1) * V vs) := by
           show _ = _
           have h1 := hst.out ((x + cc) % 4294967296)
           rw [V_take_all (by simp; omega)] at h1
           have h2 := EV.out
           rw [V_take_all (by have := Hfl.out; omega)] at h2
           have h3 := HE.out
           rw [V_take_all (show vs.length ≤ m + 2 by have := Hhv.out; omega)] at h3
           have h4 := V_lt (HL.out.set (m + 2) (y := (x + cc) % 4294967296) (by omega) (by omega))
           have h5 := V_nonneg (HL.out.set (m + 2) (y := (x + cc) % 4294967296) (by omega) (by omega))
           rw [show (gs.set (m + 2) ((x + cc) % 4294967296)).length = m + 2 + 1 by simp; omega] at h4
           have h6 := HD.out
           rw [Int.mul_one] at h6
           have h7 := HN.out.1
           have h8 : (q - 1) * V vs = q * V vs - V vs := by rw [Int.sub_mul, Int.one_mul]
           have h9 := add_step (k := m + 2) (x := x) (y := 0) (c := cc) (d := (x + cc) % 4294967296) (e := (x + cc) / 4294967296) (by omega) h3
           rw [Int.mul_zero, Int.add_zero, ← h1, ← h2, h6] at h9
           have ha : 0 < Bp (m + 2 + 1) := Bp_pos _
           have hR := HR.out
           rw [show m + 3 = m + 2 + 1 from rfl] at h9
           rcases (show (x + cc) / 4294967296 = 0 ∨ (x + cc) / 4294967296 = 1 by omega) with hh | hh <;> rw [hh] at h9
           · rw [Int.mul_zero] at h9; omega
           · rw [Int.mul_one] at h9; omega
          have LG := Lib.hid (HL.out.set (m + 2) (y := (x + cc) % 4294967296) (by omega) (by omega))
          have HO2 := Lib.hid (OwnN.setAt HO1.out Hho.out (m + 2) (by omega) ((x + cc) % 4294967296))
          have HG2 := Lib.hid (grown_set HG1.out (o + (m + 2)) (.int .u32 ((x + cc) % 4294967296)))
          have Hgl : Hid ((gs.set (m + 2) ((x + cc) % 4294967296)).length = m + 3) := by show _ = _; simp; omega
          clear HE HS hst EV
          go_wp2
          go_ret
          have hn := HN.out.1
          have hR := HR.out
          have hde := divs (a := V es) (b := V vs) (q := q - 1) (by rw [Int.sub_mul, Int.one_mul]; omega) (by rw [Int.sub_mul, Int.one_mul]; omega)
          exact ⟨ret_int hde.1.symm, gs.set (m + 2) ((x + cc) % 4294967296), Hgl.out, LG.out, by rw [hde.2, HS2.out], HO2.out, HG2.out⟩
theorem shifted {ys cs : List Int} {m up : Nat} (hy : ys.length = m + 2) (hl : Lim ys) (hc : cs.length = m + 3) (hlc : Lim cs) (hV : V cs = V ys * 2 ^ up)
 (h1 : 2147483648 ≤ ys[m + 1]'(by omega) * 2 ^ up) (h2 : (ys[m + 1]'(by omega) + 1) * 2 ^ up ≤ 4294967296) :
 V (cs.take (m + 2)) = V ys * 2 ^ up ∧ 2147483648 ≤ (cs.take (m + 2))[m + 1]'(by simp; omega) := by
 have hp : (0 : Int) < 2 ^ up := Int.pow_pos (by decide)
 have e1 : V ys = V (ys.take (m + 1)) + Bp (m + 1) * ys[m + 1]'(by omega) := by
  have := V_take_succ (xs := ys) (i := m + 1) (by omega)
  rwa [V_take_all (by omega)] at this
 have l1 := V_lt (hl.take (m + 1))
 rw [List.length_take, Nat.min_eq_left (by omega)] at l1
 have l0 := V_nonneg (hl.take (m + 1))
 have b := Bp_pos (m + 1)
 generalize ys[m + 1]'(by omega) = t at *
 -- below the next power
 have u1 : V ys + 1 ≤ Bp (m + 1) * (t + 1) := by rw [Int.mul_add, Int.mul_one]; omega
 have u2 : (V ys + 1) * 2 ^ up ≤ (Bp (m + 1) * (t + 1)) * 2 ^ up := mul_mono u1 (by omega)
 have u3 : (Bp (m + 1) * (t + 1)) * 2 ^ up = Bp (m + 1) * ((t + 1) * 2 ^ up) := Int.mul_assoc ..
 have u4 : Bp (m + 1) * ((t + 1) * 2 ^ up) ≤ Bp (m + 1) * 4294967296 := mul_mono' h2 (by omega)
 have u5 : Bp (m + 2) = 4294967296 * Bp (m + 1) := Bp_succ (m + 1)
 have u6 : (V ys + 1) * 2 ^ up = V ys * 2 ^ up + 2 ^ up := by rw [Int.add_mul, Int.one_mul]
 have u7 : V ys * 2 ^ up < Bp (m + 2) := by omega
 -- so the last limb is idle
 have e2 := V_take_succ (xs := cs) (i := m + 2) (by omega)
 rw [V_take_all (by omega)] at e2
 have z0 := V_nonneg (hlc.take (m + 2))
 have z1 := (hlc.get (m + 2) (by omega)).1
 have z2 : cs[m + 2]'(by omega) = 0 := by
  apply Int.le_antisymm _ z1
  apply Int.le_of_not_gt
  intro hgt
  have : Bp (m + 2) * 1 ≤ Bp (m + 2) * cs[m + 2]'(by omega) := mul_mono' (by omega) (by have := Bp_pos (m + 2); omega)
  omega
 rw [z2, Int.mul_zero, Int.add_zero] at e2
 refine ⟨by rw [← e2, hV], ?_⟩
 rw [List.getElem_take]
 -- the highest limb
 have e3 := V_take_succ (xs := cs) (i := m + 1) (by omega)
 rw [show m + 1 + 1 = m + 2 from rfl, ← e2, hV] at e3
 have l2 := V_lt (hlc.take (m + 1))
 rw [List.length_take, Nat.min_eq_left (by omega)] at l2
 generalize cs[m + 1]'(by omega) = d at *
 apply Int.le_of_not_gt
 intro hgt
 have a1 : Bp (m + 1) * (d + 1) ≤ Bp (m + 1) * 2147483648 := mul_mono' (by omega) (by omega)
 have a2 : Bp (m + 1) * 2147483648 ≤ Bp (m + 1) * (t * 2 ^ up) := mul_mono' h1 (by omega)
 have a3 : Bp (m + 1) * (t * 2 ^ up) ≤ V ys * 2 ^ up := by
  rw [e1, Int.add_mul, Int.mul_assoc]
  have := Int.mul_nonneg l0 (Int.le_of_lt hp)
  omega
 have a4 : Bp (m + 1) * (d + 1) = Bp (m + 1) * d + Bp (m + 1) := by rw [Int.mul_add, Int.mul_one]
 omega
theorem long_start {xs us : List Int} {m up L : Nat} {W y : Int} (hx : xs.length = L) (hl : Lim xs) (hu : us.length = L + 1) (hlu : Lim us) (hV : V us = V xs * 2 ^ up) (hW : W = y * 2 ^ up) (hy : Bp (m + 1) ≤ y) (hL : m + 2 ≤ L) :
 V (us.drop (L - m - 1)) < W := by
 have hp : (0 : Int) < 2 ^ up := Int.pow_pos (by decide)
 have h1 := V_lt hl
 rw [hx] at h1
 have e := V_split us (L - m - 1) (by omega)
 have h0 := V_nonneg (hlu.take (L - m - 1))
 have b := Bp_pos (L - m - 1)
 rw [hW]
 apply Int.lt_of_not_ge
 intro hge
 have a1 : Bp (L - m - 1) * (y * 2 ^ up) ≤ Bp (L - m - 1) * V (us.drop (L - m - 1)) := mul_mono' hge (by omega)
 have a2 : Bp (L - m - 1) * (Bp (m + 1) * 2 ^ up) ≤ Bp (L - m - 1) * (y * 2 ^ up) := mul_mono' (mul_mono hy (by omega)) (by omega)
 have a3 : Bp (L - m - 1) * (Bp (m + 1) * 2 ^ up) = Bp L * 2 ^ up := by rw [← Int.mul_assoc, ← Bp_add, show L - m - 1 + (m + 1) = L by omega]
 have a4 : (V xs + 1) * 2 ^ up ≤ Bp L * 2 ^ up := mul_mono (by omega) (by omega)
 rw [Int.add_mul, Int.one_mul] at a4
 omega
theorem long_part {us : List Int} {k m : Nat} {W : Int} (hl : Lim us) (hk : k + m + 3 ≤ us.length) (hlt : V (us.drop (k + 1)) < W) (hW : W ≤ Bp (m + 2)) :
 V ((us.drop k).take (m + 3)) = V (us.drop k) ∧ V (us.drop (k + m + 3)) = 0 ∧ V (us.drop k) < 4294967296 * W := by
 have h1 := hl.get k (by omega)
 have e1 := V_drop (xs := us) (i := k) (by omega)
 have e2 := V_split (us.drop k) (m + 3) (by simp; omega)
 rw [List.drop_drop, show k + (m + 3) = k + m + 3 by omega] at e2
 have h2 := V_nonneg (hl.drop (k + m + 3))
 have h3 := V_nonneg ((hl.drop k).take (m + 3))
 have e3 : Bp (m + 3) = 4294967296 * Bp (m + 2) := Bp_succ (m + 2)
 have b := Bp_pos (m + 2)
 have h4 : V (us.drop k) < 4294967296 * W := by omega
 have h5 : V (us.drop (k + m + 3)) = 0 := by
  apply Int.le_antisymm _ h2
  apply Int.le_of_not_gt
  intro hgt
  have : Bp (m + 3) * 1 ≤ Bp (m + 3) * V (us.drop (k + m + 3)) := mul_mono' (by omega) (by omega)
  omega
 rw [h5, Int.mul_zero, Int.add_zero] at e2
 exact ⟨e2.symm, h5, h4⟩
theorem long_step {us fs qs : List Int} {k m : Nat} {W U : Int} (hk : k + m + 3 ≤ us.length) (hf : fs.length = m + 3) (hp : V ((us.drop k).take (m + 3)) = V (us.drop k)) (hz : V (us.drop (k + m + 3)) = 0) (hW : 0 < W)
 (hq : k < qs.length) (hF : V fs = V ((us.drop k).take (m + 3)) % W) (H : U = V (qs.drop (k + 1)) * Bp (k + 1) * W + V us) :
 U = V ((qs.set k (V ((us.drop k).take (m + 3)) / W)).drop k) * Bp k * W + V (us.take k ++ (fs ++ us.drop (k + m + 3))) ∧ V ((us.take k ++ (fs ++ us.drop (k + m + 3))).drop k) < W := by
 have e0 : (us.take k).length = k := by simp; omega
 have d1 : V ((us.take k ++ (fs ++ us.drop (k + m + 3))).drop k) = V fs := by
  rw [List.drop_append_of_le_length (by omega), List.drop_of_length_le (by omega), List.nil_append, V_append, hz]; omega
 have d2 : V (us.take k ++ (fs ++ us.drop (k + m + 3))) = V (us.take k) + Bp k * V fs := by
  rw [V_append, e0, V_append, hz]; simp
 refine ⟨?_, ?_⟩
 · rw [d2, V_drop (by simpa using hq), List.getElem_set_self, List.drop_set_of_lt (by omega), hF, H, V_split us k (by omega), Bp_succ, ← hp]
   have := Int.mul_ediv_add_emod (V ((us.drop k).take (m + 3))) W
   generalize V ((us.drop k).take (m + 3)) / W = q at *
   generalize V ((us.drop k).take (m + 3)) % W = r at *
   rw [← this]
   grind
 · rw [d1, hF]; exact Int.emod_lt_of_pos _ hW
theorem down_step {i : Nat} {s h a b r R S : Int} (hs : s * h = 4294967296) (hr : r = a / s + (b % s) * h) (H : R * s = S + Bp i * (a % s)) : (R + Bp i * r) * s = S + Bp i * a + Bp (i + 1) * (b % s) := by
 rw [Bp_succ, hr]
 have e := Int.mul_ediv_add_emod a s
 generalize a / s = q at *
 generalize a % s = t at *
 generalize b % s = u at *
 rw [← hs, ← e]
 grind
theorem long_end {q r x y s : Int} (hs : 0 < s) (hy : 0 < y) (H : x * s = q * (y * s) + r) (h0 : 0 ≤ r) (h1 : r < y * s) : q = x / y ∧ r = (x % y) * s := by
 have e : x * s = x / y * (y * s) + (x % y) * s := by
  have := Int.mul_ediv_add_emod x y
  have e2 : x * s = (y * (x / y) + x % y) * s := by rw [this]
  rw [e2]; grind
 have m0 := Int.emod_nonneg x (show y ≠ 0 by omega)
 have m1 := Int.emod_lt_of_pos x hy
 have n0 : 0 ≤ (x % y) * s := Int.mul_nonneg m0 (by omega)
 have n1 : (x % y) * s < y * s := Int.mul_lt_mul_of_pos_right m1 hs
 have hys : 0 < y * s := Int.mul_pos hy hs
 have u1 := divs' (a := x * s) (b := y * s) (q := q) (by omega) (by omega)
 have u2 := divs' (a := x * s) (b := y * s) (q := x / y) (by omega) (by omega)
 have : q = x / y := by rw [← u1.1]; exact u2.1
 refine ⟨this, ?_⟩
 rw [this] at H
 omega
where
 divs' {a b q : Int} (h0 : 0 ≤ a - q * b) (h1 : a - q * b < b) : a / b = q ∧ a % b = a - q * b := by
  have hb : 0 < b := by omega
  have e : a = (a - q * b) + q * b := by omega
  constructor
  · rw [e, Int.add_mul_ediv_right _ _ (by omega), Int.ediv_eq_zero_of_lt h0 h1]; omega
  · rw [e, Int.add_mul_emod_self_right, Int.emod_eq_of_lt h0 h1]; omega
theorem getD_lt {xs : List Int} {i : Nat} (h : i < xs.length) : xs.getD i 0 = xs[i] := by simp [List.getD, List.getElem?_eq_getElem h]
theorem Own.grown {w w1 : World} {g u : Nat} {cs : List Value} (h : Own w g cs) (hg : w.grownBy w1 (some u)) (hne : g ≠ u) : Own w1 g cs := by
 obtain ⟨t, h⟩ := h
 exact ⟨t, (hg.block g (Array.getElem?_eq_some_iff.1 h).1 (by intro e; injection e with e; exact hne e)).trans h⟩
theorem low_mod {y : Int} {up : Nat} (h : up ≤ 32) : y * 2 ^ (32 - up) % 4294967296 = (y % 2 ^ up) * 2 ^ (32 - up) := by
 rw [← pow_split h, Int.mul_comm y, Int.mul_comm (2 ^ up), Int.mul_emod_mul_of_pos _ _ (pow2_pos _), Int.mul_comm]
theorem down_or {x y : Int} {up : Nat} (hup : up < 32) (hx : 0 ≤ x ∧ x < 4294967296) (hy : 0 ≤ y ∧ y < 4294967296) :
 bits .or .u32 (x / 2 ^ up) (IntKind.u64.wrap (y * 2 ^ (32 - up)) % 4294967296) = x / 2 ^ up + (y % 2 ^ up) * 2 ^ (32 - up) ∧ 0 ≤ x / 2 ^ up + (y % 2 ^ up) * 2 ^ (32 - up) ∧ x / 2 ^ up + (y % 2 ^ up) * 2 ^ (32 - up) < 4294967296 := by
 have hp := pow_split (Nat.le_of_lt hup)
 have s1 := pow2_pos up
 have s2 := pow2_pos (32 - up)
 have q0 := Int.ediv_nonneg hx.1 (Int.le_of_lt s1)
 have q1 : x / 2 ^ up < 2 ^ (32 - up) := by rw [Int.ediv_lt_iff_lt_mul s1, Int.mul_comm, hp]; exact hx.2
 have w0 : 0 ≤ y * 2 ^ (32 - up) := Int.mul_nonneg hy.1 (Int.le_of_lt s2)
 have w1 : (2 : Int) ^ (32 - up) ≤ 4294967296 := by
  have : (1 : Int) * 2 ^ (32 - up) ≤ 2 ^ up * 2 ^ (32 - up) := mul_mono (by omega) (by omega)
  omega
 have w2 : y * 2 ^ (32 - up) < 18446744073709551616 := by
  have : y * 2 ^ (32 - up) ≤ 4294967295 * 2 ^ (32 - up) := mul_mono (by omega) (by omega)
  omega
 have h := or_low (z := x / 2 ^ up) (x := y) (up := 32 - up) (by omega) q0 q1 hy
 rw [u64w w0 w2]
 rw [low_mod (Nat.le_of_lt hup)] at h ⊢
 have z0 : 0 ≤ (y % 2 ^ up) * 2 ^ (32 - up) := Int.mul_nonneg (Int.emod_nonneg _ (by omega)) (by omega)
 exact ⟨h.1, by omega, h.2⟩
theorem lead {t : Int} (h0 : 0 < t) (h1 : t < 4294967296) : ∃ up : Nat, up < 32 ∧ 32 - (Lib.bitLen t.toNat : Int) = (up : Int) ∧ 2147483648 ≤ t * 2 ^ up ∧ (t + 1) * 2 ^ up ≤ 4294967296 := by
 obtain ⟨n, rfl⟩ := Int.eq_ofNat_of_zero_le (Int.le_of_lt h0)
 simp only [Int.toNat_natCast]
 obtain ⟨a, b, c, d⟩ := bitLen_bounds (x := n) (by omega) (by omega)
 generalize Lib.bitLen n = l at *
 refine ⟨32 - l, by omega, by omega, ?_, ?_⟩
 · have : 2 ^ (l - 1) * 2 ^ (32 - l) ≤ n * 2 ^ (32 - l) := Nat.mul_le_mul_right _ c
   rw [← Nat.pow_add, show l - 1 + (32 - l) = 31 by omega] at this
   have h := Int.ofNat_le.2 this
   simpa using h
 · have : (n + 1) * 2 ^ (32 - l) ≤ 2 ^ l * 2 ^ (32 - l) := Nat.mul_le_mul_right _ d
   rw [← Nat.pow_add, show l + (32 - l) = 32 by omega] at this
   have h := Int.ofNat_le.2 this
   simpa using h
set_option maxHeartbeats 4000000 in
set_option maxRecDepth 100000 in
theorem nat_long (A : Option Addr) (c : Nat) (xs : List Int) (B : Option Addr) (d : Nat) (ys : List Int) (m : Nat) (w : World) (h : Rn w A xs) (hl : Lim xs) (hc : xs.length ≤ c) (hm : xs.length ≤ 549755813888)
 (k : Rn w B ys) (kl : Lim ys) (kc : ys.length ≤ d) (hy : ys.length = m + 2) (htop : 0 < ys[m + 1]'(by omega)) (hle : m + 2 ≤ xs.length) :
 Calls Tryz.prog 210 #[.slice A xs.length c, .slice B (m + 2) d] w fun e w' =>
  ∃ A' c' B' d', e = .returned (.tuple #[.slice A' (dg (V xs / V ys).toNat).length c', .slice B' (dg (V xs % V ys).toNat).length d']) ∧ (dg (V xs / V ys).toNat).length ≤ c' ∧ (dg (V xs % V ys).toNat).length ≤ d' ∧
   Rn w' A' (dg (V xs / V ys).toNat) ∧ Rn w' B' (dg (V xs % V ys).toNat) ∧ Below w.heap.size w w' := by
 have hy1 := kl.get (m + 1) (by omega)
 obtain ⟨bd, rfl, hcell⟩ := Knd.at_int k (m + 1) (by omega)
 have hcell2 : w.cell? ⟨bd.block, bd.off + (m + 1), none⟩ = some (.int .u32 (ys[m + 1]'(by omega))) := by rw [← hcell]; simp [Addr.add]
 obtain ⟨up, hup, eup, ht1, ht2⟩ := lead htop hy1.2
 have HLZ := Lib.hid (bits_LeadingZeros32 (ys[m + 1]'(by omega)) w hy1.1 (by omega))
 rw [eup] at HLZ
 have HMV := Lib.hid (fun W (hb : Below w.heap.size w W) => nat_moved (some bd) d ys up W (k.below hb) kl kc (by omega) hup)
 rw [hy] at HMV
 have HMU := Lib.hid (fun W (hb : Below w.heap.size w W) => nat_moved A c xs up W (h.below hb) hl hc hm hup)
 have HSH : Hid (∀ cs : List Int, cs.length = m + 3 → Lim cs → V cs = V ys * 2 ^ up → V (cs.take (m + 2)) = V ys * 2 ^ up ∧ 2147483648 ≤ (cs.take (m + 2)).getD (m + 1) 0) := fun cs h1 h2 h3 => by
  have := shifted hy kl h1 h2 h3 ht1 ht2
  refine ⟨this.1, ?_⟩
  rw [getD_lt (show m + 1 < (cs.take (m + 2)).length by simp; omega)]
  exact this.2
 have HT := Lib.hid htop
 have HX := Lib.hid hl
 have HY := Lib.hid hy
 have HYL := Lib.hid kl
 have HYp : Hid (Bp (m + 1) ≤ V ys) := V_pos_of_ne kl (by omega) (by omega)
 generalize ys[m + 1]'(by omega) = t at *
 clear eup ht1 ht2 h hl k kl hy htop hy1
 go_enter Tryz.func210, Tryz.ntmps210
 go_wp2_with fail
 refine HLZ.out.mono ?_
 clear HLZ
 rintro e w1 ⟨rfl, rfl⟩
 clear hcell hcell2
 go_wp2_with fail
 refine (HMV.out _ (Below.refl _ _)).mono ?_
 clear HMV
 rintro e w2 ⟨gv, cv, rfl, hcv, hov, hgv, hlv, hvv, hb2⟩
 have HB2 := Lib.hid hb2
 have HSV := Lib.hid (HSH.out cv hcv hlv hvv)
 have HOV := Lib.hid hov
 have HLV := Lib.hid hlv
 have HCV := Lib.hid hcv
 rw [hcv]
 clear HSH hvv hb2 hov hlv hcv
 go_wp2_with fail
 refine (HMU.out _ HB2.out).mono ?_
 clear HMU
 rintro e w3 ⟨gu, cu, rfl, hcu, hou, hgu, hlu, huu, hb3⟩
 have HB3 := Lib.hid (HB2.out.trans (hb3.mono HB2.out.size))
 have HOV3 := Lib.hid (Own.below HOV.out hb3 HOV.out.lt)
 have o1 := HOV.out.lt
 have o2 := hou.lt
 have o3 := HB2.out.size
 have o4 := hb3.size
 have hne : gv ≠ gu := by omega
 have HOU := Lib.hid hou
 have HLU := Lib.hid hlu
 have HCU := Lib.hid hcu
 have HUU := Lib.hid huu
 rw [hcu]
 clear huu hb3 hou hlu hcu HOV HB2
 have hmk := fun W => run_makeL (P := Tryz.prog) 39 133 Tryz.underlying39 info96 ((xs.length : Int) + 1 - ((m : Int) + 2)) (xs.length - m - 1) (by omega) (by omega) W
 go_wp2
 clear hmk
 have HVS := Lib.hid (HLV.out.take (m + 2))
 have HVL : Hid ((cv.take (m + 2)).length = m + 2) := by show _ = _; rw [List.length_take, HCV.out]; omega
 have hq0 : xs.length - m - 1 ≤ xs.length - m - 1 := Nat.le_refl _
 go_loopg [11] xs.length (fun gg s11 wr => ∃ (z : Int) (us qs : List Int), -1 ≤ z ∧ z ≤ (xs.length : Int) - (m : Int) - 2 ∧ z + 1 ≤ gg ∧ s11 = .int .i64 z ∧ us.length ≤ xs.length + 1 ∧ xs.length + 1 ≤ us.length ∧ qs.length ≤ xs.length - m - 1 ∧ xs.length - m - 1 ≤ qs.length ∧
  Hid (OwnN wr gu us) ∧ Hid (OwnN wr w3.heap.size qs) ∧ Hid (OwnN wr gv cv) ∧ Hid (Below w1.heap.size w1 wr) ∧ Hid (Lim us) ∧ Hid (Lim qs) ∧ Hid (V xs * 2 ^ up = V (qs.drop (z + 1).toNat) * Bp (z + 1).toNat * (V ys * 2 ^ up) + V us) ∧ Hid (V (us.drop (z + 1).toNat) < V ys * 2 ^ up))
 case atStart =>
  refine ⟨(xs.length : Int) + 1 - ((m : Int) + 2) - 1, cu, List.replicate (xs.length - m - 1) 0, by omega, by omega, by omega, rfl, by have := HCU.out; omega, by have := HCU.out; omega, by simp, by simp, Own.alloc HOU.out _, own_zeros _ _ _, Own.alloc HOV3.out _, HB3.out.alloc HB3.out.size _, HLU, Lim.zeros _, ?_, ?_⟩
  · show _ = _
    rw [show ((xs.length : Int) + 1 - ((m : Int) + 2) - 1 + 1).toNat = xs.length - m - 1 by omega, List.drop_of_length_le (by simp), HUU.out]
    simp [V]
  · show _ < _
    rw [show ((xs.length : Int) + 1 - ((m : Int) + 2) - 1 + 1).toNat = xs.length - m - 1 by omega]
    exact long_start rfl HX.out HCU.out HLU.out HUU.out rfl HYp.out hle
 case round =>
  obtain ⟨z, us, qs, hz1, hz2, hg, rfl, hl1, hl2, hk1, hk2, HU, HQ, HV, HB, HL, HQL, HE, HS⟩ := hrel
  by_cases h0 : 0 ≤ z
  · obtain ⟨k, rfl⟩ := Int.eq_ofNat_of_zero_le h0
    have hk3 : k + m + 3 ≤ us.length := by omega
    have hkz : (k : Int) + ((m : Int) + 2) + 1 ≤ (xs.length : Int) + 1 := by omega
    have hkz2 : k < xs.length + 1 := by omega
    go_wp2_with fail
    rw [show k + (m + 2) + 1 - k = m + 3 by omega]
    have hd1 : Hid (V (us.drop (k + 1)) < V ys * 2 ^ up) := by
     have := HS.out
     rwa [show ((k : Int) + 1).toNat = k + 1 by omega] at this
    have HP := Lib.hid (long_part (us := us) (k := k) (m := m) (W := V ys * 2 ^ up) HL.out hk3 hd1.out (by have h1 := HSV.out.1; have h2 := V_lt HVS.out; rw [HVL.out] at h2; omega))
    have hW0 : Hid (0 < V ys * 2 ^ up) := Int.mul_pos (by have := HYp.out; have := Bp_pos (m + 1); omega) (pow2_pos up)
    have hspl : Hid (us.take k ++ ((us.drop k).take (m + 3) ++ us.drop (k + m + 3)) = us) := by
     show _ = _
     rw [show us.drop (k + m + 3) = (us.drop k).drop (m + 3) by rw [List.drop_drop]; congr 1, List.take_append_drop, List.take_append_drop]
    have hfl : Hid (((us.drop k).take (m + 3)).length = m + 3) := by show _ = _; simp; omega
    refine (nat_digit gu k m (us.take k) ((us.drop k).take (m + 3)) (us.drop (k + m + 3)) (xs.length + 1 - k) ⟨gv, 0, none⟩ (cv.take (m + 2)) (m + 2 + 1) wr (by simp; omega) hfl.out HVL.out (by omega) (by omega)
     (by rw [hspl.out]; exact HU.out) ((HL.out.drop k).take (m + 3)) (OwnN.row (HV.out) |>.take (m + 2)) hne HVS.out (by have := HSV.out.2; rwa [getD_lt (by rw [HVL.out]; omega)] at this) (by rw [HSV.out.1, HP.out.1]; exact HP.out.2.2)).mono ?_
    rintro e w4 ⟨fs, rfl, hf1, hf2, hf3, hf4, hf5⟩
    rw [HSV.out.1] at hf3
    rw [HSV.out.1]
    have HST := Lib.hid (long_step (us := us) (fs := fs) (qs := qs) (k := k) (m := m) (W := V ys * 2 ^ up) (U := V xs * 2 ^ up) hk3 hf1 HP.out.1 HP.out.2.1 hW0.out (by omega) hf3 (by have := HE.out; rwa [show ((k : Int) + 1).toNat = k + 1 by omega] at this))
    have hq : 0 ≤ V ((us.drop k).take (m + 3)) / (V ys * 2 ^ up) ∧ V ((us.drop k).take (m + 3)) / (V ys * 2 ^ up) < 4294967296 := by
     constructor
     · exact Int.ediv_nonneg (V_nonneg ((HL.out.drop k).take (m + 3))) (by have := hW0.out; omega)
     · rw [Int.ediv_lt_iff_lt_mul hW0.out, HP.out.1]; exact HP.out.2.2
    generalize V ((us.drop k).take (m + 3)) / (V ys * 2 ^ up) = qd at *
    have hnq : w3.heap.size ≠ gu := by omega
    have HQ2 := Lib.hid (Own.grown HQ.out hf5 hnq)
    have HV2 := Lib.hid (Own.grown HV.out hf5 hne)
    have HB4 : Hid (Below w1.heap.size w1 w4) := HB.out.grown hf5 HB.out.size (fun b hb => by injection hb with hb; omega)
    have HU2 := Lib.hid hf4
    have HLF : Hid (Lim (us.take k ++ (fs ++ us.drop (k + m + 3)))) := (HL.out.take k).append (hf2.append (HL.out.drop _))
    have hul : (us.take k ++ (fs ++ us.drop (k + m + 3))).length = us.length := by simp [hf1]; omega
    have c3 := OwnN.cell HQ2.out k (by omega)
    have c4 := Own.frozen HQ2.out k
    generalize qs[k]'(by omega) = qo at c3
    clear hf1 hf2 hf3 hf4 hf5 hspl hfl HP
    generalize us.take k ++ (fs ++ us.drop (k + m + 3)) = us' at *
    go_wp2
    go_roundg k
    case measure => omega
    case rel =>
     refine ⟨(k : Int) - 1, us', qs.set k qd, by omega, by omega, by omega, rfl, by omega, by omega, by simpa using hk1, by simpa using hk2, Own.far HU2.out (fun e => hnq e.symm) _, OwnN.set HQ2.out _ _, Own.far HV2.out (show gv ≠ w3.heap.size by omega) _, HB4.out.setCell (show w1.heap.size ≤ w3.heap.size by omega) _, HLF, HQL.out.set _ hq.1 hq.2, ?_, ?_⟩
     · show _ = _
       rw [show ((k : Int) - 1 + 1).toNat = k by omega]
       exact HST.out.1
     · show _ < _
       rw [show ((k : Int) - 1 + 1).toNat = k by omega]
       exact HST.out.2
  · have hz : Hid ((z + 1).toNat = 0) := by show _ = _; omega
    have hE := Lib.hid HE.out
    have hS := Lib.hid HS.out
    rw [hz.out, List.drop_zero, Bp_zero, Int.mul_one] at hE
    rw [hz.out, List.drop_zero] at hS
    have HEND := Lib.hid (long_end (pow2_pos up) (by have := HYp.out; have := Bp_pos (m + 1); omega) hE.out (V_nonneg HL.out) hS.out)
    have hub : Hid (∀ j, m + 2 ≤ j → us.getD j 0 = 0) := fun j hj => by
     by_cases hj2 : j < us.length
     · rw [getD_lt hj2]
       apply Int.le_antisymm _ (HL.out.get j hj2).1
       apply Int.le_of_not_gt
       intro hgt
       have h1 := V_pos_of_ne HL.out hj2 (by omega)
       have h2 := Bp_le hj
       have h3 := HSV.out.1
       have h4 := V_lt HVS.out
       rw [HVL.out] at h4
       have h5 := hS.out
       omega
     · simp [List.getD, List.getElem?_eq_none (show us.length ≤ j by omega)]
    have hqn := Lib.hid (nat_own' (some ⟨w3.heap.size, 0, none⟩) (xs.length - m - 1) (xs.length - m - 1) qs)
    have hmk2 := fun W => run_makeL (P := Tryz.prog) 39 133 Tryz.underlying39 info96 ((m : Int) + 2) (m + 2) (by omega) (by omega) W
    clear HE HS hE hS HV HSV HVS HVL HCV HLV hne hz
    obtain ⟨wr0, hwr0⟩ : ∃ x : World, x = wr := ⟨_, rfl⟩
    have o5 := HQ.out.lt
    have o6 := HU.out.lt
    have o7 := HB.out.size
    go_wp2
    clear hmk2
    subst hwr0
    go_loopg [61] (m + 2) (fun gg s61 wr => ∃ (i : Nat) (rs : List Int), i ≤ m + 2 ∧ m + 2 - i ≤ gg ∧ s61 = .int .i64 i ∧ rs.length ≤ m + 2 ∧ m + 2 ≤ rs.length ∧ Hid (OwnN wr wr0.heap.size rs) ∧ Hid (OwnN wr gu us) ∧ Hid (Below wr0.heap.size wr0 wr) ∧ Hid (Lim rs) ∧
     Hid (V (rs.take i) * 2 ^ up = (V (us.take i) - us.getD 0 0 % 2 ^ up) + Bp i * (us.getD i 0 % 2 ^ up)))
    case atStart =>
     exact ⟨0, List.replicate (m + 2) 0, Nat.zero_le _, by omega, rfl, by simp, by simp, own_zeros _ _ _, Own.alloc HU.out _, (Below.refl _ _).alloc (Nat.le_refl _) _, Lim.zeros _, by show _ = _; simp [V, Bp_zero]; omega⟩
    case round =>
     obtain ⟨i, rs, hi, hg3, rfl, hm1, hm2, HO, HU3, HB5, HRL, HR⟩ := hrel
     by_cases hlt : i < m + 2
     · have hltz : (i : Int) < (m : Int) + 2 := by omega
       have a0 := OwnN.cell HU3.out i (by omega)
       have a1 := OwnN.cell HU3.out (i + 1) (by omega)
       have b0 := HL.out.get i (by omega)
       have b1 := HL.out.get (i + 1) (by omega)
       have c3 := OwnN.cell HO.out i (by omega)
       have c4 := Own.frozen HO.out i
       have g0 : Hid (us.getD i 0 = us[i]'(by omega)) := getD_lt (by omega)
       have g1 : Hid (us.getD (i + 1) 0 = us[i + 1]'(by omega)) := getD_lt (by omega)
       have hst := Lib.hid (V_take_set_succ (xs := rs) (k := i) (by omega))
       have HUV := Lib.hid (V_take_getD us i)
       generalize us[i]'(by omega) = x at *
       generalize us[i + 1]'(by omega) = y at *
       generalize rs[i]'(by omega) = ro at *
       have hq0 : (i : Int) + 1 < (xs.length : Int) + 1 := by omega
       go_wp2
       obtain ⟨wn, hwn⟩ : ∃ x : World, x = wr := ⟨_, rfl⟩
       go_region
       have hz := Lib.hid (down_or (x := x) (y := y) hup b0 b1)
       rw [hz.out.1]
       have HO2 := Lib.hid (OwnN.set HO.out i (x / 2 ^ up + (y % 2 ^ up) * 2 ^ (32 - up)))
       have HU4 := Lib.hid (Own.far HU3.out (p := ⟨wr0.heap.size, i, none⟩) (show gu ≠ wr0.heap.size by omega) (.int .u32 (x / 2 ^ up + (y % 2 ^ up) * 2 ^ (32 - up))))
       have HB6 := Lib.hid (HB5.out.setCell (p := ⟨wr0.heap.size, i, none⟩) (Nat.le_refl _) (.int .u32 (x / 2 ^ up + (y % 2 ^ up) * 2 ^ (32 - up))))
       clear hwn
       go_wp2
       go_roundg (m + 2 - (i + 1))
       case measure => omega
       case rel =>
        refine ⟨i + 1, rs.set i (x / 2 ^ up + (y % 2 ^ up) * 2 ^ (32 - up)), by omega, by omega, by go_num, by simpa using hm1, by simpa using hm2, Own.drew HO2.out, Own.drew HU4.out, HB6.out.drew, HRL.out.set _ hz.out.2.1 hz.out.2.2, ?_⟩
        show _ = _
        rw [hst.out, g1.out]
        have h1 := HR.out
        rw [g0.out] at h1
        rw [down_step (pow_split (Nat.le_of_lt hup)) rfl h1, HUV.out, g0.out]
        omega
     · have hltz : ¬ (i : Int) < (m : Int) + 2 := by omega
       have hkl : i = m + 2 := by omega
       subst hkl
       have hs0 := pow2_pos up
       have HV2 : Hid (V rs = V xs % V ys) := by
        show _ = _
        have h1 := HR.out
        rw [hub.out (m + 2) (Nat.le_refl _), V_take_all (by omega)] at h1
        have h2 : V (us.take (m + 2)) = V us := by
         refine (V_zero_tail (by omega) fun j hj hle2 => ?_).symm
         have := hub.out j hle2
         rwa [getD_lt hj] at this
        rw [h2, Int.zero_emod, Int.mul_zero, Int.add_zero] at h1
        have h3 : us.getD 0 0 % 2 ^ up = 0 := by
         have e1 : V us = us.getD 0 0 + 4294967296 * V (us.drop 1) := by
          have := V_drop (xs := us) (i := 0) (by omega)
          rw [List.drop_zero] at this
          rw [this, getD_lt (by omega)]
         have e2 := HEND.out.2
         rw [e1, ← pow_split (Nat.le_of_lt hup)] at e2
         have e3 : us.getD 0 0 = (V xs % V ys - 2 ^ (32 - up) * V (us.drop 1)) * 2 ^ up := by grind
         rw [e3]; exact Int.mul_emod_left ..
        rw [h3, Int.sub_zero, HEND.out.2] at h1
        exact Int.eq_of_mul_eq_mul_right (by omega) h1
       have HQn := Lib.hid (Own.below HQ.out HB5.out o5)
       have HB7 := Lib.hid (HB.out.trans (HB5.out.mono HB.out.size))
       have HE1 := Lib.hid HEND.out.1
       clear HEND HR hub
       have hQ1 := Lib.hid (nat_own' (some ⟨w3.heap.size, 0, none⟩) (xs.length - m - 1) (xs.length - m - 1) qs wr (by omega) (OwnN.row HQn.out) HQL.out (Nat.le_refl _) (by omega))
       rw [HE1.out] at hQ1
       go_wp2_with fail
       refine hQ1.out.mono ?_
       clear hQ1
       rintro e w5 ⟨A5, c5, rfl, g1, g2, g3⟩
       have G2 := Lib.hid g2
       have HB8 := Lib.hid (HB7.out.trans (g3.mono HB7.out.size))
       have HO8 := Lib.hid (Own.below HO.out g3 HO.out.lt)
       clear g2 g3
       have hR1 := Lib.hid (nat_own' (some ⟨wr0.heap.size, 0, none⟩) (m + 2) (m + 2) rs w5 (by omega) (OwnN.row HO8.out) HRL.out (Nat.le_refl _) (by omega))
       rw [HV2.out] at hR1
       go_wp2_with fail
       refine hR1.out.mono ?_
       clear hR1
       rintro e w6 ⟨A6, c6, rfl, g4, g5, g6⟩
       have G5 := Lib.hid g5
       have G2' := Lib.hid (G2.out.below g6)
       have HB9 := Lib.hid (HB8.out.trans (g6.mono HB8.out.size))
       clear g5 g6
       go_wp2
       go_ret2
       exact ⟨A5, c5, A6, c6, rfl, g1, g4, G2'.out, G5.out, HB9.out⟩
def ToldDiv (w : World) (a b : Int) (e : Ending) (w' : World) : Prop :=
 ∃ A c B d, e = .returned (.tuple #[.slice A (dg (a / b).toNat).length c, .slice B (dg (a % b).toNat).length d, .int .i64 0]) ∧ (dg (a / b).toNat).length ≤ c ∧ (dg (a % b).toNat).length ≤ d ∧
  Rn w' A (dg (a / b).toNat) ∧ Rn w' B (dg (a % b).toNat) ∧ Below w.heap.size w w'
theorem Rn.one {w : World} {g : Nat} {x : Int} (h : w.cell? ⟨g, 0, none⟩ = some (.int .u32 x)) : Rn w (some ⟨g, 0, none⟩) [x] := by
 intro i hi
 have : i = 0 := by simpa using hi
 subst this
 refine ⟨⟨g, 0, none⟩, [.int .u32 x], rfl, rfl, fun j u hu => ?_⟩
 have hj : j = 0 := by
  cases j with
  | zero => rfl
  | succ j => simp at hu
 subst hj
 simp at hu
 subst hu
 exact h
set_option maxHeartbeats 4000000 in
theorem nat_Div (A : Option Addr) (c : Nat) (xs : List Int) (B : Option Addr) (d : Nat) (ys : List Int) (w : World) (h : Rn w A xs) (hl : Lim xs) (hc : xs.length ≤ c) (hm : xs.length ≤ 549755813888)
 (k : Rn w B ys) (kl : Lim ys) (kc : ys.length ≤ d) (km : ys.length ≤ 549755813888) (hy : 0 < V ys) :
 Calls Tryz.prog 150 #[.slice A xs.length c, .slice B ys.length d] w fun e w' => ToldDiv w (V xs) (V ys) e w' := by
 have HT1 := Lib.hid (nat_trim A c xs w h hl hc (by omega))
 have HT2 := Lib.hid (fun (W : World) (hb : Below w.heap.size w W) => nat_trim B d ys W (k.below hb) kl kc (by omega))
 have l1 := nf_len hl
 have l2 := nf_len kl
 have L1 := Lib.hid (Lim_nf xs)
 have L2 := Lib.hid (Lim_nf ys)
 have N1 := Lib.hid (show Nrm (nf xs) from Nrm_dg _)
 have N2 := Lib.hid (show Nrm (nf ys) from Nrm_dg _)
 have hy' := hy
 rw [← V_nf hl, ← V_nf kl]
 rw [← V_nf kl] at hy'
 have hne : 0 < (nf ys).length := by
  rcases Nat.eq_zero_or_pos (nf ys).length with h0 | h0
  · rw [List.length_eq_zero_iff.1 h0] at hy'; simp [V] at hy'
  · exact h0
 generalize nf xs = us at *
 generalize nf ys = vs at *
 have hlu : us.length ≤ 549755813888 := by omega
 have hlv : vs.length ≤ 549755813888 := by omega
 have hlc : us.length ≤ c := by omega
 have hld : vs.length ≤ d := by omega
 have hz : ((vs.length : Int) == 0) = false := by rw [beq_eq_false_iff_ne]; omega
 have HY := Lib.hid hy'
 clear h hl k kl hm km hy hy' l1 l2 hc kc
 go_enter Tryz.func150, Tryz.ntmps150
 go_wp2_with fail
 refine HT1.out.mono ?_
 clear HT1
 rintro e w1 ⟨rfl, h1, hb1⟩
 have HB1 := Lib.hid hb1
 have H1 := Lib.hid h1
 clear h1 hb1
 go_wp2_with fail
 refine (HT2.out _ HB1.out).mono ?_
 clear HT2
 rintro e w2 ⟨rfl, k1, hb2⟩
 have K1 := Lib.hid k1
 have HB2 := Lib.hid (HB1.out.trans (hb2.mono HB1.out.size))
 have H1' := Lib.hid (H1.out.below hb2)
 clear k1 hb2 HB1 H1
 have HC := Lib.hid (nat_Cmp A c us B d vs w2 H1'.out L1.out hlc (by omega) K1.out L2.out hld (by omega))
 by_cases hlt : V us < V vs
 · have hs : sgn (V us - V vs) = -1 := by unfold sgn; rw [if_pos (by omega)]
   rw [hs] at HC
   clear hs
   have HLT := Lib.hid hlt
   clear hlt
   go_wp2_with fail
   refine HC.out.mono ?_
   clear HC
   rintro e w3 ⟨rfl, hb3⟩
   have HB3 := Lib.hid (HB2.out.trans (hb3.mono HB2.out.size))
   have HO := Lib.hid (nat_own' A us.length c us w3 rfl (H1'.out.below hb3) L1.out hlc (by omega))
   clear hb3
   go_wp2_with fail
   refine HO.out.mono ?_
   clear HO
   rintro e w4 ⟨A', c', rfl, g1, g2, g3⟩
   have hq : V us / V vs = 0 := Int.ediv_eq_zero_of_lt (V_nonneg L1.out) HLT.out
   have hr : V us % V vs = V us := Int.emod_eq_of_lt (V_nonneg L1.out) HLT.out
   have G2 := Lib.hid g2
   have HB4 := Lib.hid (HB3.out.trans (g3.mono HB3.out.size))
   have HQ := Lib.hid hq
   have HR := Lib.hid hr
   clear hq hr g2 g3
   go_wp2
   refine bodyPost_ret (results_tmp3 rfl _ _ _) rfl ?_
   unfold ToldDiv
   rw [HQ.out, HR.out]
   exact ⟨none, 0, A', c', by simp [dg_zero], by simp [dg_zero], g1, by simp only [Int.toNat_zero, dg_zero]; exact Rn.nil _ _, G2.out, HB4.out⟩
 · have hs : 0 ≤ sgn (V us - V vs) := by unfold sgn; rw [if_neg (by omega)]; split <;> omega
   generalize sgn (V us - V vs) = sg at *
   have HLT := Lib.hid hlt
   clear hlt
   by_cases h1 : vs.length = 1
   · obtain ⟨b, rfl⟩ : ∃ b, vs = [b] := List.length_eq_one_iff.1 h1
     have hb := (L2.out.head)
     obtain ⟨hb0, hb1⟩ := hb
     have HVb : Hid (V [b] = b) := by show _ = _; simp [V]
     have hb2 : 0 < b := by have := HY.out; rw [HVb.out] at this; exact this
     obtain ⟨bd, rfl, hcell⟩ := Knd.at_int K1.out 0 (by simp)
     have hcell' : w2.cell? bd = some (.int .u32 b) := by simpa [Addr.add] using hcell
     clear hcell h1 hb0
     go_wp2_with fail
     refine HC.out.mono ?_
     clear HC
     rintro e w3 ⟨rfl, hb3⟩
     have HB3 := Lib.hid (HB2.out.trans (hb3.mono HB2.out.size))
     have hcell3 := cell_below hb3 hcell'
     have HS := Lib.hid (nat_short A c us b w3 (H1'.out.below hb3) L1.out hlc (by omega) hb2 hb1)
     clear hb3 hcell'
     go_wp2_with fail
     refine HS.out.mono ?_
     clear HS hcell3
     rintro e w4 ⟨g, qs, r, rfl, hq1, hq2, hq3, hq4, hq5, hq6, hq7, hb4⟩
     have HB4 := Lib.hid (HB3.out.trans (hb4.mono HB3.out.size))
     have hdv := divs (a := V us) (b := b) (q := V qs) (by omega) (by omega)
     have HD1 := Lib.hid hdv.1
     have HD2 : Hid (V us % b = r) := by show _ = _; rw [hdv.2]; omega
     have HO := Lib.hid (nat_own' (some ⟨g, 0, none⟩) qs.length qs.length qs w4 rfl (OwnN.row hq2) hq4 (Nat.le_refl _) (by omega))
     clear hdv hq1 hq2 hq3 hq4 hq5 hb4
     rw [← HD1.out] at HO
     go_wp2_with fail
     refine HO.out.mono ?_
     clear HO
     rintro e w5 ⟨A5, c5, rfl, g1, g2, g3⟩
     have HB5 := Lib.hid (HB4.out.trans (g3.mono HB4.out.size))
     have G2 := Lib.hid g2
     clear g2 g3
     go_wp2_with fail
     have HO2 := Lib.hid (nat_own' (some ⟨w5.heap.size, 0, none⟩) 1 1 [r] (w5.alloc (.cells #[.int .u32 r] 133)) rfl (Rn.one (by simp [go_sem])) (Lim.cons hq6 (by omega) Lim.nil) (Nat.le_refl _) (by omega))
     refine HO2.out.mono ?_
     clear HO2
     rintro e w6 ⟨A6, c6, rfl, g4, g5, g6⟩
     have hVr : V [r] = r := by simp [V]
     rw [hVr, ← HD2.out] at g4 g5
     rw [hVr, ← HD2.out]
     have hab : Below w5.heap.size w5 w6 := ((Below.refl _ _).alloc (Nat.le_refl _) _).trans (g6.mono (by simp))
     have G5 := Lib.hid g5
     have G2' := Lib.hid (G2.out.below hab)
     have HB6 := Lib.hid (HB5.out.trans (hab.mono HB5.out.size))
     clear g5 g6 hab hVr
     go_wp2
     refine bodyPost_ret (results_tmp3 rfl _ _ _) rfl ?_
     unfold ToldDiv
     rw [HVb.out]
     exact ⟨A5, c5, A6, c6, rfl, g1, g4, G2'.out, G5.out, HB6.out⟩
   · obtain ⟨m, hm⟩ : ∃ m, vs.length = m + 2 := ⟨vs.length - 2, by omega⟩
     have hge : m + 2 ≤ us.length := by
      apply Nat.le_of_not_lt
      intro hh
      exact HLT.out (V_longer L1.out L2.out N2.out (by omega))
     have htop : 0 < vs[m + 1]'(by omega) := by
      have h2 := N2.out (by intro e; rw [e] at hm; simp at hm)
      rw [List.getLast_eq_getElem] at h2
      have h3 := (L2.out.get (m + 1) (by omega)).1
      have h4 : vs[vs.length - 1]'(by omega) = vs[m + 1]'(by omega) := by congr 1; omega
      rw [h4] at h2
      omega
     have HL := Lib.hid (fun w3 (hb3 : Below w2.heap.size w2 w3) => nat_long A c us B d vs m w3 (H1'.out.below hb3) L1.out hlc hlu (K1.out.below hb3) L2.out hld hm htop hge)
     have e1 : ((vs.length : Int) == 1) = false := by rw [beq_eq_false_iff_ne]; omega
     rw [← hm] at HL
     clear htop hm hge h1
     go_wp2_with fail
     refine HC.out.mono ?_
     clear HC
     rintro e w3 ⟨rfl, hb3⟩
     have HB3 := Lib.hid (HB2.out.trans (hb3.mono HB2.out.size))
     have HL3 := Lib.hid (HL.out w3 hb3)
     clear hb3 HL
     go_wp2_with fail
     refine HL3.out.mono ?_
     clear HL3
     rintro e w4 ⟨A4, c4, B4, d4, rfl, g1, g2, g3, g4, g5⟩
     have G3 := Lib.hid g3
     have G4 := Lib.hid g4
     have HB4 := Lib.hid (HB3.out.trans (g5.mono HB3.out.size))
     clear g3 g4 g5
     go_wp2
     refine bodyPost_ret (results_tmp3 rfl _ _ _) rfl ?_
     unfold ToldDiv
     exact ⟨A4, c4, B4, d4, rfl, g1, g2, G3.out, G4.out, HB4.out⟩
theorem modn (x y : Nat) : ((x : Int) % (y : Int)).toNat = x % y := by rw [← Int.natCast_emod, Int.toNat_natCast]
theorem Vn (x : Nat) : V (dg x) = (x : Int) := V_dg x
set_option maxHeartbeats 4000000 in
theorem nat_Gcd (A : Option Addr) (c : Nat) (xs : List Int) (B : Option Addr) (d : Nat) (ys : List Int) (w : World) (h : Rn w A xs) (hl : Lim xs) (hc : xs.length ≤ c) (hm : xs.length ≤ 549755813888)
 (k : Rn w B ys) (kl : Lim ys) (kc : ys.length ≤ d) (km : ys.length ≤ 549755813888) :
 Calls Tryz.prog 149 #[.slice A xs.length c, .slice B ys.length d] w fun e w' => Told w ((Nat.gcd (V xs).toNat (V ys).toNat : Nat) : Int) e w' := by
 have HO1 := Lib.hid (nat_own' A xs.length c xs w rfl h hl hc (by omega))
 have HO2 := Lib.hid (fun (W : World) (hb : Below w.heap.size w W) => nat_own' B ys.length d ys W rfl (k.below hb) kl kc (by omega))
 have l1 : (dg (V xs).toNat).length ≤ 549755813888 := Nat.le_trans (nf_len hl) hm
 have l2 : (dg (V ys).toNat).length ≤ 549755813888 := Nat.le_trans (nf_len kl) km
 clear h hl k kl hm km hc kc
 unfold Told at HO1 HO2
 generalize (V xs).toNat = X at HO1 l1 ⊢
 generalize (V ys).toNat = Y at HO2 l2 ⊢
 go_enter Tryz.func149, Tryz.ntmps149
 go_wp2_with fail
 refine HO1.out.mono ?_
 clear HO1
 rintro e w1 ⟨A1, c1, rfl, g1, g2, g3⟩
 have HB1 := Lib.hid g3
 have G2 := Lib.hid g2
 clear g2 g3
 go_wp2_with fail
 refine (HO2.out _ HB1.out).mono ?_
 clear HO2
 rintro e w2 ⟨A2, c2, rfl, g4, g5, g6⟩
 have HB2 := Lib.hid (HB1.out.trans (g6.mono HB1.out.size))
 have G5 := Lib.hid g5
 have G2' := Lib.hid (G2.out.below g6)
 clear g5 g6 HB1 G2
 go_wp2
 go_loopg [0, 1] (Y + 1) (fun gg s0 s1 wr => ∃ (x y : Nat) (A : Option Addr) (c : Nat) (B : Option Addr) (d : Nat), y < gg ∧ s0 = .slice A (dg x).length c ∧ s1 = .slice B (dg y).length d ∧ (dg x).length ≤ 549755813888 ∧ (dg y).length ≤ 549755813888 ∧ (dg x).length ≤ c ∧ (dg y).length ≤ d ∧
  Hid (Rn wr A (dg x)) ∧ Hid (Rn wr B (dg y)) ∧ Hid (Below w.heap.size w wr) ∧ Hid (Nat.gcd x y = Nat.gcd X Y))
 case atStart => exact ⟨X, Y, A1, c1, A2, c2, by omega, rfl, rfl, l1, l2, g1, g4, G2', G5, HB2, rfl⟩
 case round =>
  clear g1 g4 G2' G5 HB2 l1 l2
  obtain ⟨x, y, A, c, B, d, hg, rfl, rfl, l1, l2, hc, hd, HX, HY, HB, HG⟩ := hrel
  by_cases hy : y = 0
  · subst hy
    have hgx : Hid (Nat.gcd X Y = x) := by show _ = _; rw [← HG.out]; exact Nat.gcd_zero_right x
    have e0 : dg 0 = [] := dg_zero
    rw [e0] at *
    clear HG HY
    go_wp2
    go_ret
    unfold Told
    rw [hgx.out]
    exact ⟨A, c, by simp, by simpa using hc, by simpa using HX.out, HB.out⟩
  · have hpos : 0 < (dg y).length := by
     rcases Nat.eq_zero_or_pos (dg y).length with h0 | h0
     · exact absurd (dg_eq_nil.1 (List.length_eq_zero_iff.1 h0)) hy
     · exact h0
    have HD := Lib.hid (nat_Div A c (dg x) B d (dg y) wr HX.out (Lim_dg x) hc l1 HY.out (Lim_dg y) hd l2 (by rw [Vn]; omega))
    unfold ToldDiv at HD
    rw [Vn, Vn, modn] at HD
    have HN : Hid (Nat.gcd y (x % y) = Nat.gcd X Y) := by show _ = _; rw [← HG.out, Nat.gcd_comm x y, Nat.gcd_rec y x, Nat.gcd_comm]
    have hlt : x % y < y := Nat.mod_lt _ (by omega)
    have l3 : (dg (x % y)).length ≤ 549755813888 := Nat.le_trans (dg_length_mono (Nat.le_of_lt hlt)) l2
    generalize x % y = r at *
    clear HG hy
    go_wp2_with fail
    refine HD.out.mono ?_
    clear HD
    rintro e w3 ⟨A3, c3, B3, d3, rfl, q1, q2, q3, q4, q5⟩
    have Q4 := Lib.hid q4
    have HY3 := Lib.hid (HY.out.below q5)
    have HB3 := Lib.hid (HB.out.trans (q5.mono HB.out.size))
    clear q3 q4 q5 q1
    go_wp2
    go_roundg y
    case measure => omega
    case rel => exact ⟨y, r, B, d, B3, d3, hlt, rfl, rfl, l2, l3, hd, q2, HY3, Q4, HB3, HN⟩
set_option maxHeartbeats 1000000 in
theorem nat_Bits (A : Option Addr) (c : Nat) (xs : List Int) (w : World) (h : Rn w A xs) (hl : Lim xs) (hc : xs.length ≤ c) (hm : xs.length ≤ 549755813888) :
 Calls Tryz.prog 137 #[.slice A xs.length c] w fun e w' => ∃ b : Int, e = .returned (.int .i64 b) ∧ 0 ≤ b ∧ (b = 0 ↔ V xs = 0) ∧ Below w.heap.size w w' := by
 have HT := Lib.hid (nat_trim A c xs w h hl hc (by omega))
 have l1 := nf_len hl
 have L1 := Lib.hid (Lim_nf xs)
 have N1 := Lib.hid (show Nrm (nf xs) from Nrm_dg _)
 rw [← V_nf hl]
 generalize nf xs = us at *
 have hlu : us.length ≤ 549755813888 := by omega
 clear h hl hm hc l1
 by_cases h0 : us = []
 · subst h0
   go_enter Tryz.func137, Tryz.ntmps137
   go_wp2_with fail
   refine HT.out.mono ?_
   clear HT
   rintro e w1 ⟨rfl, h1, hb1⟩
   have HB := Lib.hid hb1
   clear h1 hb1
   go_wp2
   go_ret
   exact ⟨0, rfl, by omega, by simp [V], HB.out⟩
 · obtain ⟨n, hn⟩ : ∃ n, us.length = n + 1 := ⟨us.length - 1, by have := List.length_pos_iff.2 h0; omega⟩
   have htop : 0 < us[n]'(by omega) := by
    have h2 := N1.out h0
    rw [List.getLast_eq_getElem] at h2
    have h3 := (L1.out.get n (by omega)).1
    have h4 : us[us.length - 1]'(by omega) = us[n]'(by omega) := by congr 1; omega
    rw [h4] at h2
    omega
   have htl := (L1.out.get n (by omega)).2
   have hV : Hid (V us ≠ 0) := by
    show _ ≠ _
    have := V_pos_of_ne L1.out (i := n) (by omega) (by omega)
    have := Bp_pos n
    omega
   have hcell : Hid (∀ W, Rn W A us → ∃ ad, A = some ad ∧ W.cell? (ad.add n) = some (.int .u32 (us[n]'(by omega)))) := fun W hW => Knd.at_int hW n (by omega)
   generalize us[n]'(by omega) = t at htop htl hcell
   have hbl := bitLen_bounds (x := t.toNat) (by omega) (by omega)
   have hb1 := hbl.1
   have hb2 := hbl.2.1
   have HLN := Lib.hid (fun W => bits_Len32 t W (by omega) (by omega))
   clear h0
   rw [hn] at HT hlu
   have hbp : 0 < Lib.bitLen t.toNat := by
    rcases Nat.eq_zero_or_pos (Lib.bitLen t.toNat) with h9 | h9
    · rw [h9] at hbl; have := hbl.2.2; omega
    · exact h9
   clear hbl
   generalize Lib.bitLen t.toNat = bl at *
   have Hn := Lib.hid hn
   clear hn
   go_enter Tryz.func137, Tryz.ntmps137
   go_wp2_with fail
   refine HT.out.mono ?_
   clear HT
   rintro e w1 ⟨rfl, h1, hb3⟩
   have HB := Lib.hid hb3
   obtain ⟨ad, rfl, hc1⟩ := hcell.out w1 h1
   clear h1 hb3 hcell
   have hc2 : n ≠ 0 → w1.cell? ⟨ad.block, ad.off + n, none⟩ = some (.int .u32 t) := fun hne => by rw [← hc1]; simp [Addr.add, hne]
   have HC2 := Lib.hid hc2
   clear hc2
   go_wp2_with fail
   refine (HLN.out w1).mono ?_
   clear HLN
   rintro e w2 ⟨rfl, rfl⟩
   go_wp2
   go_ret
   refine ⟨_, rfl, by omega, ?_, HB.out⟩
   constructor
   · intro hh; omega
   · intro hh; exact absurd hh hV.out
theorem Rn.two {w : World} {g : Nat} {x y : Int} (h : w.cell? ⟨g, 0, none⟩ = some (.int .u32 x)) (h' : w.cell? ⟨g, 1, none⟩ = some (.int .u32 y)) : Rn w (some ⟨g, 0, none⟩) [x, y] := by
 intro i hi
 have hi : i < 2 := by simpa using hi
 rcases i with _ | _ | i
 · refine ⟨⟨g, 0, none⟩, [.int .u32 x], rfl, rfl, fun j u hu => ?_⟩
   cases j with
   | zero => simp at hu; subst hu; exact h
   | succ j => simp at hu
 · refine ⟨⟨g, 0, none⟩, [.int .u32 y], rfl, rfl, fun j u hu => ?_⟩
   cases j with
   | zero => simp at hu; subst hu; exact h'
   | succ j => simp at hu
 · omega
theorem V_two (n : Int) : V [n % 4294967296, n / 4294967296] = n := by
 simp only [V]; omega
theorem nat_Of (n : Int) (w : World) (h0 : 0 ≤ n) (h1 : n < 18446744073709551616) :
 Calls Tryz.prog 129 #[.int .u64 n] w fun e w' => Told w n e w' := by
 have HO := Lib.hid (nat_own' (some ⟨w.heap.size, 0, none⟩) 2 2 [n % 4294967296, n / 4294967296] (w.alloc (.cells #[.int .u32 (n % 4294967296), .int .u32 (n / 4294967296)] 133)) rfl
  (Rn.two (by simp [go_sem]) (by simp [go_sem])) (Lim.cons (by omega) (by omega) (Lim.cons (by omega) (by omega) Lim.nil)) (Nat.le_refl _) (by omega))
 rw [V_two] at HO
 go_enter Tryz.func129, Tryz.ntmps129
 go_wp2_with fail
 refine HO.out.mono ?_
 clear HO
 rintro e w6 ⟨A6, c6, rfl, g4, g5, g6⟩
 have HB := Lib.hid ((((Below.refl _ w).alloc (Nat.le_refl _) _).trans (g6.mono (by simp)) : Below w.heap.size w w6))
 have G5 := Lib.hid g5
 clear g5 g6
 go_wp2
 go_ret
 exact ⟨A6, c6, rfl, g4, G5.out, HB.out⟩
end Go.Proofs.YtidgpkccjcddgaaGreatDoor.F

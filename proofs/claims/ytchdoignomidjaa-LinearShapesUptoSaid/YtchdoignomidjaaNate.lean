/- The walks of package nat, fifth part: digit. Conditions: the limbs are limbs, the divisor's highest limb has its highest bit, the quotient is one limb. -/
import Derived.Test.YtchdoignomidjaaNatd
import Derived.Deep.RegionHeld3
set_option linter.unusedVariables false
set_option linter.unusedSimpArgs false
namespace Go.Proofs.Ytchdoignomidjaa.F
open Go.RowKit Go.Shelf

theorem OwnN.cellAt {w : World} {g o : Nat} {pre es post : List Int} (h : OwnN w g (pre ++ (es ++ post))) (ho : pre.length = o) (i : Nat) (hi : i < es.length) : w.cell? ⟨g, o + i, none⟩ = some (.int .u32 es[i]) := by
  subst ho
  rw [OwnN.cell h (pre.length + i) (by simp; omega)]
  simp [List.getElem_append, hi]
theorem OwnN.setAt {w : World} {g o : Nat} {pre es post : List Int} (h : OwnN w g (pre ++ (es ++ post))) (ho : pre.length = o) (i : Nat) (hi : i < es.length) (y : Int) : OwnN (w.setCell ⟨g, o + i, none⟩ (.int .u32 y)) g (pre ++ (es.set i y ++ post)) := by
  subst ho
  have := OwnN.set h (pre.length + i) y
  rwa [List.set_append_right _ _ (by omega), Nat.add_sub_cancel_left, List.set_append_left _ _ hi] at this
theorem grown_set {a w : World} {g : Nat} (h : a.grownBy w (some g)) (i : Nat) (u : Value) : a.grownBy (w.setCell ⟨g, i, none⟩ u) (some g) :=
  ⟨h.os, h.tape, h.output, by simpa [World.setCell] using h.size, fun k hk hne => (Below.heap_setCell w _ u k (by intro e; exact hne (by rw [e]))).trans (h.block k hk hne)⟩
theorem grown_drewN {a w : World} {row : Option Nat} (h : a.grownBy w row) (n : Nat) : a.grownBy (w.drewN n) row := ⟨h.os, h.tape, h.output, h.size, h.block⟩
theorem grown_drew {a w : World} {row : Option Nat} (h : a.grownBy w row) : a.grownBy w.drew row := ⟨h.os, h.tape, h.output, h.size, h.block⟩
theorem grown_refl (w : World) (row : Option Nat) : w.grownBy w row := ⟨rfl, rfl, rfl, Nat.le_refl _, fun _ _ _ => rfl⟩
theorem cell_grown {w w1 : World} {g : Nat} (h : w.grownBy w1 (some g)) {a : Addr} {v : Value} (hne : a.block ≠ g) (hc : w.cell? a = some v) : w1.cell? a = some v :=
  (World.cell?_of_block (w := w) (h.block a.block (World.block_lt_of_cell? w a hc) (by intro e; injection e with e; exact hne e))).trans hc
theorem add_block (a : Addr) (n : Nat) : (a.add n).block = a.block := by unfold Addr.add; split <;> rfl
theorem Rn.grown {w w1 : World} {g : Nat} (h : w.grownBy w1 (some g)) {bd : Addr} {vs : List Int} (hne : bd.block ≠ g) (hv : Rn w (some bd) vs) : Rn w1 (some bd) vs := by
  intro i hi
  obtain ⟨ad, cs, e, hC, hc⟩ := hv i hi
  cases e
  exact ⟨bd, cs, rfl, hC, fun j u hu => cell_grown h (by rw [add_block]; exact hne) (hc j u hu)⟩

theorem divs {a b q : Int} (h0 : 0 ≤ a - q * b) (h1 : a - q * b < b) : a / b = q ∧ a % b = a - q * b := by
  have hb : 0 < b := by omega
  have e : a = (a - q * b) + q * b := by omega
  constructor
  · rw [e, Int.add_mul_ediv_right _ _ (by omega), Int.ediv_eq_zero_of_lt h0 h1]; omega
  · rw [e, Int.add_mul_emod_self_right, Int.emod_eq_of_lt h0 h1]; omega
/-- one limb of a multiple taken away -/
theorem subm_step {i : Nat} {q x y t tl th d b b' c : Int} {F E W : Int} (ht : t = tl + 4294967296 * th) (hp : t = q * y + c) (hd : x - tl - b = d - 4294967296 * b') (H : F = E - q * W + Bp i * (c + b)) :
    F + Bp i * d = E + Bp i * x - q * (W + Bp i * y) + Bp (i + 1) * (th + b') := by
  rw [Bp_succ, H]
  have h1 : Bp i * (x - tl - b) = Bp i * (d - 4294967296 * b') := by rw [hd]
  have h2 : Bp i * t = Bp i * (tl + 4294967296 * th) := by rw [ht]
  have h3 : Bp i * t = Bp i * (q * y + c) := by rw [hp]
  grind
/-- the highest limbs, seen as a guess wants them -/
theorem kn_of {m : Nat} {es vs : List Int} (he : es.length = m + 3) (hv : vs.length = m + 2) (hle : Lim es) (hlv : Lim vs) (htop : 2147483648 ≤ vs[m + 1]'(by omega)) (hlt : V es < 4294967296 * V vs) :
    Kn (es[m + 2]'(by omega)) (es[m + 1]'(by omega)) (es[m]'(by omega)) (vs[m + 1]'(by omega)) (vs[m]'(by omega)) (V es) (V vs) := by
  refine ⟨hle.get _ _, hle.get _ _, hle.get _ _, ⟨htop, (hlv.get _ _).2⟩, hlv.get _ _, ⟨Bp m, V (es.take m), V (vs.take m), Bp_pos m, V_nonneg (hle.take m), ?_, V_nonneg (hlv.take m), ?_, ?_, ?_⟩, hlt⟩
  · have := V_lt (hle.take m)
    rwa [List.length_take, Nat.min_eq_left (by omega)] at this
  · have := V_lt (hlv.take m)
    rwa [List.length_take, Nat.min_eq_left (by omega)] at this
  · rw [V_split es m (by omega), V_drop (show m < es.length by omega), V_drop (show m + 1 < es.length by omega), V_drop (show m + 2 < es.length by omega), List.drop_of_length_le (show es.length ≤ m + 2 + 1 by omega)]
    simp only [V]
    grind
  · rw [V_split vs m (by omega), V_drop (show m < vs.length by omega), V_drop (show m + 1 < vs.length by omega), List.drop_of_length_le (show vs.length ≤ m + 1 + 1 by omega)]
    simp only [V]
    grind

set_option maxHeartbeats 8000000 in
set_option maxRecDepth 100000 in
/-- one digit of a quotient; what is divided becomes what is left -/
theorem nat_digit (g o m : Nat) (pre es post : List Int) (cap : Nat) (bd : Addr) (vs : List Int) (c : Nat) (w : World) (ho : pre.length = o) (he : es.length = m + 3) (hv : vs.length = m + 2) (hm : m ≤ 1099511627776) (ho2 : o ≤ 4398046511104)
    (hO : OwnN w g (pre ++ (es ++ post))) (hle : Lim es) (hV : Rn w (some bd) vs) (hbd : bd.block ≠ g) (hlv : Lim vs) (htop : 2147483648 ≤ vs[m + 1]'(by omega)) (hlt : V es < 4294967296 * V vs) :
    Calls Try.prog 140 #[.slice (some ⟨g, o, none⟩) (m + 3) cap, .slice (some bd) (m + 2) c] w fun e w' =>
      ∃ fs : List Int, e = .returned (.int .u32 (V es / V vs)) ∧ fs.length = m + 3 ∧ Lim fs ∧ V fs = V es % V vs ∧ OwnN w' g (pre ++ (fs ++ post)) ∧ w.grownBy w' (some g) := by
  have HK := Lib.hid (kn_of he hv hle hlv htop hlt)
  have a0 := OwnN.cellAt hO ho (m + 2) (by omega)
  have a1 := OwnN.cellAt hO ho (m + 1) (by omega)
  have a2 := OwnN.cellAt hO ho m (by omega)
  have d1 : w.cell? (bd.add (m + 1)) = some (.int .u32 (vs[m + 1]'(by omega))) := by obtain ⟨ad, e, h⟩ := Knd.at_int hV (m + 1) (by omega); cases e; exact h
  have d2 : w.cell? (bd.add m) = some (.int .u32 (vs[m]'(by omega))) := by obtain ⟨ad, e, h⟩ := Knd.at_int hV m (by omega); cases e; exact h
  have d3 : w.cell? ⟨bd.block, bd.off + (m + 1), none⟩ = some (.int .u32 (vs[m + 1]'(by omega))) := by rw [← d1]; simp [Addr.add]
  have b0 := hle.get (m + 2) (by omega)
  have b1 := hle.get (m + 1) (by omega)
  have b2 := hle.get m (by omega)
  have e1 := hlv.get (m + 1) (by omega)
  have e2 := hlv.get m (by omega)
  have HO := Lib.hid hO
  have HV := Lib.hid hV
  have Hle := Lib.hid hle
  have Hlv := Lib.hid hlv
  have Hbd := Lib.hid hbd
  have Hho := Lib.hid ho
  have Hhe := Lib.hid he
  have Hhv := Lib.hid hv
  have Hlt := Lib.hid hlt
  have hlen : pre.length ≤ o ∧ o ≤ pre.length := by omega
  have Hu0 : Hid (es.getD (m + 2) 0 = es[m + 2]'(by omega)) := by show _ = _; simp [List.getD, List.getElem?_eq_getElem (show m + 2 < es.length by omega)]
  generalize es[m + 2]'(by omega) = u0 at *
  generalize es[m + 1]'(by omega) = u1 at *
  generalize es[m]'(by omega) = u2 at *
  generalize vs[m + 1]'(by omega) = v1 at *
  generalize vs[m]'(by omega) = v2 at *
  clear hO hle hV hlv hbd ho he hv hlt hlen
  go_enter Try.func140, Try.ntmps140
  go_upto_region 2 with (fail)
  go_quiet (fail)
  rw [join64 u0 u1 b0 b1]
  have t0 : 0 ≤ u0 * 4294967296 + u1 := by omega
  have hI := HK.out.init
  have hv1 := HK.out.bv1.1
  obtain ⟨i1, i2, i3, i4, _, _⟩ := hI
  have t1 : u0 * 4294967296 + u1 < 18446744073709551616 := by omega
  have t2 : v1 < 4294967296 := HK.out.bv1.2
  have t3 : 0 < v1 := by omega
  have i5 : (u0 * 4294967296 + u1) / v1 < 18446744073709551616 := by omega
  go_upto_region 3 with (fail)
  go_quiet (fail)
  go_upto_block 0 with (fail)
  go_cut [7] (fun s7 wc => ∃ q : Int, s7 = .int .u64 q ∧ Hid (KnQ u0 u1 u2 v1 v2 (V es) (V vs) q) ∧ Hid (Dr w wc))
  case first =>
    go_wp2
    go_loopg [7, 8] 4294967299 (fun gg s7 s8 wr => ∃ q r : Int, q ≤ gg ∧ s7 = .int .u64 q ∧ s8 = .int .u64 r ∧ 0 ≤ q ∧ q ≤ 4294967297 ∧ 0 ≤ r ∧ r < 4294967296 ∧ Hid (KnI u0 u1 v1 (V es) (V vs) q r) ∧ Hid (Dr w wr))
    case atStart => exact ⟨_, _, by omega, rfl, rfl, i1, i2, i3, i4, HK.out.init, by show Dr _ _; repeat (first | exact Dr.refl _ | apply Dr.step)⟩
    case round =>
      obtain ⟨q, r, hg, rfl, rfl, q0, q1, r0, r1, HI, HW⟩ := hrel
      obtain ⟨nn, rfl⟩ := HW.out
      clear HW i1 i2 i3 i4
      by_cases hq : 4294967296 ≤ q
      · have hs := Lib.hid (HK.out.step HI.out (.inl hq))
        have q2 : 1 ≤ q := by omega
        have f1 : (q / 4294967296 != 0) = true := by rw [bne_iff_ne]; omega
        by_cases hr : r + v1 < 4294967296
        · have f2 : ((r + v1) / 4294967296 != 0) = false := by rw [bne_eq_false_iff_eq]; omega
          have HN := Lib.hid (HI.out.next HK.out hs.out hr)
          go_wp2
          go_quiet (fail)
          go_wp2
          go_roundg (q - 1).toNat
          case measure => omega
          case rel => exact ⟨q - 1, r + v1, by omega, rfl, rfl, by omega, by omega, by omega, hr, HN.out, by show Dr _ _; repeat (first | exact Dr.refl _ | apply Dr.step)⟩
        · have f2 : ((r + v1) / 4294967296 != 0) = true := by rw [bne_iff_ne]; omega
          have HN := Lib.hid (HI.out.broke HK.out hs.out (by omega))
          go_wp2
          go_quiet (fail)
          go_wp2
          go_meet
          case rel => exact ⟨q - 1, rfl, HN.out, by show Dr _ _; repeat (first | exact Dr.refl _ | apply Dr.step)⟩
      · have f1 : (q / 4294967296 != 0) = false := by rw [bne_eq_false_iff_eq]; omega
        have hmul := mul_le_max (x := q) (y := v2) ⟨q0, by omega⟩ e2
        obtain ⟨p, hp⟩ : ∃ p, p = q * v2 := ⟨_, rfl⟩
        have HP := Lib.hid hp
        rw [← hp] at hmul
        clear hp
        have p1 : IntKind.u64.wrap (q * v2) = p := by rw [← HP.out, u64w (by omega) (by omega)]
        have p2 := join64 r u2 ⟨r0, r1⟩ b2
        have p3 : 0 ≤ r * 4294967296 + u2 := by omega
        have p4 : r * 4294967296 + u2 < 18446744073709551616 := by omega
        by_cases ht : r * 4294967296 + u2 < p
        · have hs := Lib.hid (HK.out.step HI.out (.inr ⟨by omega, by rw [← HP.out]; exact ht⟩))
          have q2 : 1 ≤ q := hs.out.1
          have f3 : decide (r * 4294967296 + u2 < p) = true := by simpa using ht
          by_cases hr : r + v1 < 4294967296
          · have f2 : ((r + v1) / 4294967296 != 0) = false := by rw [bne_eq_false_iff_eq]; omega
            have HN := Lib.hid (HI.out.next HK.out hs.out hr)
            go_wp2
            go_quiet (fail)
            go_wp2
            go_roundg (q - 1).toNat
            case measure => omega
            case rel => exact ⟨q - 1, r + v1, by omega, rfl, rfl, by omega, by omega, by omega, hr, HN.out, by show Dr _ _; repeat (first | exact Dr.refl _ | apply Dr.step)⟩
          · have f2 : ((r + v1) / 4294967296 != 0) = true := by rw [bne_iff_ne]; omega
            have HN := Lib.hid (HI.out.broke HK.out hs.out (by omega))
            go_wp2
            go_quiet (fail)
            go_wp2
            go_meet
            case rel => exact ⟨q - 1, rfl, HN.out, by show Dr _ _; repeat (first | exact Dr.refl _ | apply Dr.step)⟩
        · have HQ := Lib.hid (HI.out.stop HK.out (by omega) (by rw [← HP.out]; omega))
          have f3 : decide (r * 4294967296 + u2 < p) = false := by simpa using ht
          go_wp2
          go_quiet (fail)
          go_wp2
          go_meet
          case rel => exact ⟨q, rfl, HQ.out, by show Dr _ _; repeat (first | exact Dr.refl _ | apply Dr.step)⟩
  case rest =>
    obtain ⟨q, rfl, HQ, HW⟩ := hcut
    obtain ⟨nn, rfl⟩ := HW.out
    have q0 := HQ.out.1
    have q1 := HQ.out.2.1
    have HN := Lib.hid (HQ.out.near HK.out)
    clear HW a0 a1 a2 d1 d2 d3 i1 i2 i3 i4 i5 t0 t1
    go_wp2
    go_loopg [9, 10, 83] (m + 2) (fun gg s9 s10 s83 wr => ∃ (i : Nat) (bo cy : Int) (fs : List Int), i ≤ m + 2 ∧ m + 2 - i ≤ gg ∧ s83 = .int .i64 i ∧ s9 = .int .u32 bo ∧ s10 = .int .u64 cy ∧ 0 ≤ bo ∧ bo ≤ 1 ∧ 0 ≤ cy ∧ cy < 4294967296 ∧ fs.length ≤ m + 3 ∧ m + 3 ≤ fs.length ∧
      Hid (OwnN wr g (pre ++ (fs ++ post))) ∧ Hid (w.grownBy wr (some g)) ∧ Hid (Lim fs) ∧ Hid (V (fs.take i) = V (es.take i) - q * V (vs.take i) + Bp i * (cy + bo)) ∧ Hid (∀ j, i ≤ j → fs.getD j 0 = es.getD j 0))
    case atStart =>
      exact ⟨0, 0, 0, es, Nat.zero_le _, by omega, rfl, rfl, rfl, by omega, by omega, by omega, by omega, by have := Hhe.out; omega, by have := Hhe.out; omega, Own.drewN HO.out _, grown_drewN (grown_refl _ _) _, Hle, by show _ = _; simp [V], fun _ _ => rfl⟩
    case round =>
      obtain ⟨i, bo, cy, fs, hi, hg, rfl, rfl, rfl, hbo0, hbo1, hcy0, hcy1, hl1, hl2, HO1, HG1, HL, HE, HS⟩ := hrel
      by_cases hlt : i < m + 2
      · have hltz : (i : Int) < (m : Int) + 2 := by omega
        have c1 := OwnN.cellAt HO1.out Hho.out i (by omega)
        have c4 : wr.frozen? ⟨g, o + i, none⟩ = false := Own.frozen HO1.out _
        obtain ⟨ad, ead, c2⟩ := Knd.at_int (HV.out.grown HG1.out Hbd.out) i (by have := Hhv.out; omega)
        cases ead
        have b3 := HL.out.get i (by omega)
        have b4 := Hlv.out.get i (by have := Hhv.out; omega)
        have EV := Lib.hid (V_take_getD es i)
        have VV := Lib.hid (V_take_succ (xs := vs) (i := i) (by have := Hhv.out; omega))
        rw [← HS.out i (Nat.le_refl _), show fs.getD i 0 = fs[i]'(by omega) by simp [List.getD, List.getElem?_eq_getElem (show i < fs.length by omega)]] at EV
        have hst := Lib.hid (fun (y : Int) => V_take_set_succ (xs := fs) (k := i) (by omega) y)
        generalize fs[i]'(by omega) = x at *
        generalize vs[i]'(by have := Hhv.out; omega) = y at *
        have hmul := mul_le_max (x := q) (y := y) ⟨q0, by omega⟩ b4
        obtain ⟨p, hp⟩ : ∃ p, p = q * y := ⟨_, rfl⟩
        have HP := Lib.hid hp
        rw [← hp] at hmul
        clear hp
        have p1 : IntKind.u64.wrap (q * y) = p := by rw [← HP.out, u64w (by omega) (by omega)]
        have HA := Lib.hid (bits_Sub32 x ((p + cy) % 4294967296) bo wr b3 ⟨by omega, by omega⟩ ⟨hbo0, hbo1⟩)
        go_wp2_with fail
        refine HA.out.mono ?_
        clear HA
        rintro e w' ⟨rfl, rfl⟩
        go_wp2
        go_roundg (m + 2 - (i + 1))
        case measure => omega
        case rel =>
          refine ⟨i + 1, bor x ((p + cy) % 4294967296 + bo), (p + cy) / 4294967296, fs.set i ((x - (p + cy) % 4294967296 - bo) % 4294967296), by omega, by omega, by go_num, rfl, rfl, by unfold bor; split <;> omega, by unfold bor; split <;> omega, by omega, by omega, by simpa using hl1, by simpa using hl2,
            OwnN.setAt HO1.out Hho.out i (by omega) _, grown_set HG1.out _ _, HL.out.set _ (by omega) (by omega), ?_, ?_⟩
          · show _ = _
            rw [hst.out, EV.out, VV.out]
            exact subm_step (tl := (p + cy) % 4294967296) (t := p + cy) (by omega) (by rw [← HP.out]) (by unfold bor; split <;> omega) HE.out
          · intro j hj
            rw [List.getD, List.getElem?_set_ne (by omega)]
            exact HS.out j (by omega)
      · have hltz : ¬ (i : Int) < (m : Int) + 2 := by omega
        have hkl : i = m + 2 := by omega
        subst hkl
        have c1 := OwnN.cellAt HO1.out Hho.out (m + 2) (by omega)
        have c4 : wr.frozen? ⟨g, o + (m + 2), none⟩ = false := Own.frozen HO1.out _
        have e5 : Hid (fs[m + 2]'(by omega) = u0) := by
          show _ = _
          have := HS.out (m + 2) (Nat.le_refl _)
          simp only [List.getD, List.getElem?_eq_getElem (show m + 2 < fs.length by omega)] at this
          rw [show (some (fs[m + 2]'(by omega))).getD 0 = fs[m + 2]'(by omega) from rfl] at this
          rw [this]
          exact Hu0.out
        rw [e5.out] at c1
        have hst := Lib.hid (V_take_set_succ (xs := fs) (k := m + 2) (by omega))
        have EV := Lib.hid (V_take_getD es (m + 2))
        rw [Hu0.out] at EV
        have HD : Hid (V (fs.set (m + 2) ((u0 - cy - bo) % 4294967296)) = V es - q * V vs + Bp (m + 3) * bor u0 (cy + bo)) := by
          show _ = _
          have h1 := hst.out ((u0 - cy - bo) % 4294967296)
          rw [V_take_all (by simp; omega)] at h1
          have h2 := EV.out
          rw [V_take_all (by have := Hhe.out; omega)] at h2
          have h3 := HE.out
          rw [V_take_all (show vs.length ≤ m + 2 by have := Hhv.out; omega)] at h3
          rw [h1, h2]
          have := subm_step (i := m + 2) (q := q) (x := u0) (y := 0) (t := cy) (tl := cy) (th := 0) (c := cy) (b := bo) (d := (u0 - cy - bo) % 4294967296) (b' := bor u0 (cy + bo)) (by omega) (by omega) (by unfold bor; split <;> omega) h3
          rw [Int.mul_zero, Int.add_zero, Int.zero_add] at this
          exact this
        have HA := Lib.hid (bits_Sub32 u0 cy bo wr b0 ⟨hcy0, hcy1⟩ ⟨hbo0, hbo1⟩)
        have LF := Lib.hid (HL.out.set (m + 2) (y := (u0 - cy - bo) % 4294967296) (by omega) (by omega))
        have HO2 := Lib.hid (OwnN.setAt HO1.out Hho.out (m + 2) (by omega) ((u0 - cy - bo) % 4294967296))
        have HG2 := Lib.hid (grown_set HG1.out (o + (m + 2)) (.int .u32 ((u0 - cy - bo) % 4294967296)))
        have hfl : (fs.set (m + 2) ((u0 - cy - bo) % 4294967296)).length = m + 3 := by simp; omega
        have hcy' : cy % 4294967296 = cy := by omega
        generalize fs.set (m + 2) ((u0 - cy - bo) % 4294967296) = hs at *
        have hV0 := Lib.hid (V_nonneg LF.out)
        have hV1 := Lib.hid (V_lt LF.out)
        rw [hfl] at hV1
        have Hfl := Lib.hid hfl
        clear hfl HE HS HO1 HG1 HL e5 hst EV
        by_cases hD : 0 ≤ V es - q * V vs
        · have hb : Hid (bor u0 (cy + bo) = 0) := by
            show _ = _
            have h1 := HD.out
            have h2 := hV1.out
            have h3 := Bp_pos (m + 3)
            unfold bor at h1 ⊢
            split at h1
            · rw [Int.mul_one] at h1; omega
            · rename_i hh; rw [if_neg hh]
          rw [hb.out] at HA HD
          have HR := Lib.hid hD
          clear hD
          go_wp2_with fail
          refine HA.out.mono ?_
          clear HA
          rintro e w' ⟨rfl, rfl⟩
          go_wp2
          go_ret
          have hlt2 : V es - q * V vs < V vs := by
            have h := HN.out.2
            rw [Int.add_mul, Int.one_mul] at h
            omega
          have hde := divs (a := V es) (b := V vs) (q := q) HR.out hlt2
          exact ⟨hs, ret_int (by rw [hde.1]), Hfl.out, LF.out, by have := HD.out; rw [hde.2, this]; omega, HO2.out, HG2.out⟩
        · have hb : Hid (bor u0 (cy + bo) = 1) := by
            show _ = _
            have h1 := HD.out
            have h2 := hV0.out
            unfold bor at h1 ⊢
            split at h1
            · rename_i hh; rw [if_pos hh]
            · rw [Int.mul_zero] at h1; omega
          rw [hb.out] at HA HD
          have HR := Lib.hid hD
          have hq1 : 1 ≤ q := by
            apply Int.le_of_not_gt
            intro hq
            have : q = 0 := by omega
            have h1 := V_nonneg Hle.out
            subst this
            omega
          clear hD
          go_wp2_with fail
          refine HA.out.mono ?_
          clear HA
          rintro e w' ⟨rfl, rfl⟩
          obtain ⟨w3, hw3⟩ : ∃ w3, w3 = w'.setCell ⟨g, o + (m + 2), none⟩ (.int .u32 ((u0 - cy - bo) % 4294967296)) := ⟨_, rfl⟩
          go_wp2
          rw [← hw3] at HO2 HG2 ⊢
          clear hw3 c1 c4
          go_loopg [13, 131] (m + 2) (fun gg s13 s131 wr => ∃ (i : Nat) (cc : Int) (gs : List Int), i ≤ m + 2 ∧ m + 2 - i ≤ gg ∧ s131 = .int .i64 i ∧ s13 = .int .u32 cc ∧ 0 ≤ cc ∧ cc ≤ 1 ∧ gs.length ≤ m + 3 ∧ m + 3 ≤ gs.length ∧
            Hid (OwnN wr g (pre ++ (gs ++ post))) ∧ Hid (w.grownBy wr (some g)) ∧ Hid (Lim gs) ∧ Hid (V (gs.take i) + Bp i * cc = V (hs.take i) + V (vs.take i)) ∧ Hid (∀ j, i ≤ j → gs.getD j 0 = hs.getD j 0))
          case atStart =>
            exact ⟨0, 0, hs, Nat.zero_le _, by omega, rfl, rfl, by omega, by omega, by have := Hfl.out; omega, by have := Hfl.out; omega, HO2, HG2, LF, by show _ = _; simp [V], fun _ _ => rfl⟩
          case round =>
            obtain ⟨i, cc, gs, hi, hg2, rfl, rfl, hcc0, hcc1, hm1, hm2, HO1, HG1, HL, HE, HS⟩ := hrel
            by_cases hlt : i < m + 2
            · have hltz : (i : Int) < (m : Int) + 2 := by omega
              have c1 := OwnN.cellAt HO1.out Hho.out i (by omega)
              have c4 : wr.frozen? ⟨g, o + i, none⟩ = false := Own.frozen HO1.out _
              obtain ⟨ad, ead, c2⟩ := Knd.at_int (HV.out.grown HG1.out Hbd.out) i (by have := Hhv.out; omega)
              cases ead
              have b3 := HL.out.get i (by omega)
              have b4 := Hlv.out.get i (by have := Hhv.out; omega)
              have EV := Lib.hid (V_take_getD hs i)
              have VV := Lib.hid (V_take_succ (xs := vs) (i := i) (by have := Hhv.out; omega))
              rw [← HS.out i (Nat.le_refl _), show gs.getD i 0 = gs[i]'(by omega) by simp [List.getD, List.getElem?_eq_getElem (show i < gs.length by omega)]] at EV
              have hst := Lib.hid (fun (y : Int) => V_take_set_succ (xs := gs) (k := i) (by omega) y)
              generalize gs[i]'(by omega) = x at *
              generalize vs[i]'(by have := Hhv.out; omega) = y at *
              go_wp2
              go_region_with (go_at_call 143; refine (bits_Add32 x y cc _ b3 b4 ⟨hcc0, hcc1⟩).mono ?_; rintro e w' ⟨rfl, rfl⟩)
              all_goals
                go_wp2
                go_roundg (m + 2 - (i + 1))
                case measure => omega
                case rel =>
                  refine ⟨i + 1, (x + y + cc) / 4294967296, gs.set i ((x + y + cc) % 4294967296), by omega, by omega, by go_num, rfl, by omega, by omega, by simpa using hm1, by simpa using hm2, ?_, ?_, HL.out.set _ (by omega) (by omega), ?_, ?_⟩
                  · first | exact OwnN.setAt HO1.out Hho.out i (by omega) _ | exact Own.drew (OwnN.setAt HO1.out Hho.out i (by omega) _) | exact OwnN.setAt (Own.drew HO1.out) Hho.out i (by omega) _
                  · first | exact grown_set HG1.out _ _ | exact grown_drew (grown_set HG1.out _ _) | exact grown_set (grown_drew HG1.out) _ _
                  · show _ = _
                    rw [hst.out, EV.out, VV.out]
                    exact add_step (by omega) HE.out
                  · intro j hj
                    rw [List.getD, List.getElem?_set_ne (by omega)]
                    exact HS.out j (by omega)
            · have hltz : ¬ (i : Int) < (m : Int) + 2 := by omega
              have hkl : i = m + 2 := by omega
              subst hkl
              have c1 := OwnN.cellAt HO1.out Hho.out (m + 2) (by omega)
              have c4 : wr.frozen? ⟨g, o + (m + 2), none⟩ = false := Own.frozen HO1.out _
              have b3 := HL.out.get (m + 2) (by omega)
              have hst := Lib.hid (V_take_set_succ (xs := gs) (k := m + 2) (by omega))
              have EV := Lib.hid (V_take_getD hs (m + 2))
              rw [← HS.out (m + 2) (Nat.le_refl _), show gs.getD (m + 2) 0 = gs[m + 2]'(by omega) by simp [List.getD, List.getElem?_eq_getElem (show m + 2 < gs.length by omega)]] at EV
              generalize gs[m + 2]'(by omega) = x at *
              have HS2 : Hid (V (gs.set (m + 2) ((x + cc) % 4294967296)) = V es - (q - 1) * V vs) := by
                show _ = _
                have h1 := hst.out ((x + cc) % 4294967296)
                rw [V_take_all (by simp; omega)] at h1
                have h2 := EV.out
                rw [V_take_all (by have := Hfl.out; omega)] at h2
                have h3 := HE.out
                rw [V_take_all (show vs.length ≤ m + 2 by have := Hhv.out; omega)] at h3
                have h4 := V_lt (HL.out.set (m + 2) (y := (x + cc) % 4294967296) (by omega) (by omega))
                have h5 := V_nonneg (HL.out.set (m + 2) (y := (x + cc) % 4294967296) (by omega) (by omega))
                rw [show (gs.set (m + 2) ((x + cc) % 4294967296)).length = m + 2 + 1 by simp; omega] at h4
                have h6 := HD.out
                rw [Int.mul_one] at h6
                have h7 := HN.out.1
                have h8 : (q - 1) * V vs = q * V vs - V vs := by rw [Int.sub_mul, Int.one_mul]
                have h9 := add_step (k := m + 2) (x := x) (y := 0) (c := cc) (d := (x + cc) % 4294967296) (e := (x + cc) / 4294967296) (by omega) h3
                rw [Int.mul_zero, Int.add_zero, ← h1, ← h2, h6] at h9
                have ha : 0 < Bp (m + 2 + 1) := Bp_pos _
                have hR := HR.out
                rw [show m + 3 = m + 2 + 1 from rfl] at h9
                rcases (show (x + cc) / 4294967296 = 0 ∨ (x + cc) / 4294967296 = 1 by omega) with hh | hh <;> rw [hh] at h9
                · rw [Int.mul_zero] at h9; omega
                · rw [Int.mul_one] at h9; omega
              have LG := Lib.hid (HL.out.set (m + 2) (y := (x + cc) % 4294967296) (by omega) (by omega))
              have HO2 := Lib.hid (OwnN.setAt HO1.out Hho.out (m + 2) (by omega) ((x + cc) % 4294967296))
              have HG2 := Lib.hid (grown_set HG1.out (o + (m + 2)) (.int .u32 ((x + cc) % 4294967296)))
              have Hgl : Hid ((gs.set (m + 2) ((x + cc) % 4294967296)).length = m + 3) := by show _ = _; simp; omega
              clear HE HS hst EV
              go_wp2
              go_ret
              have hn := HN.out.1
              have hR := HR.out
              have hde := divs (a := V es) (b := V vs) (q := q - 1) (by rw [Int.sub_mul, Int.one_mul]; omega) (by rw [Int.sub_mul, Int.one_mul]; omega)
              exact ⟨ret_int hde.1.symm, gs.set (m + 2) ((x + cc) % 4294967296), Hgl.out, LG.out, by rw [hde.2, HS2.out], HO2.out, HG2.out⟩
end Go.Proofs.Ytchdoignomidjaa.F

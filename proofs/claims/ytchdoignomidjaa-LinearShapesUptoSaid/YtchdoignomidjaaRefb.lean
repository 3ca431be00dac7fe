/- The walks of the reference's layer 1, second part: Cmp, Add, Sub. -/
import Derived.Test.YtchdoignomidjaaRefa
set_option linter.unusedVariables false
set_option linter.unusedSimpArgs false
namespace Go.Proofs.Ytchdoignomidjaa.F
open Go.RowKit Go.Shelf Go.Proofs.YtchdoignomidjaaW.PrintLast

theorem V_take_lt {xs : List Int} (h : Lim xs) (k : Nat) : 0 ≤ V (xs.take k) ∧ V (xs.take k) < Bp k := by
  have h1 := V_lt (h.take k)
  have h2 : Bp (xs.take k).length ≤ Bp k := Bp_le (by rw [List.length_take]; omega)
  exact ⟨V_nonneg (h.take k), by omega⟩
theorem sgn_top {a b x y p d : Int} (ha : 0 ≤ a ∧ a < p) (hb : 0 ≤ b ∧ b < p) (hd : d = (a + p * x) - (b + p * y)) : (x < y → sgn d = -1) ∧ (y < x → sgn d = 1) ∧ (x = y → d = a - b) := by
  refine ⟨fun h => ?_, fun h => ?_, fun h => ?_⟩
  · have h1 : p * (x + 1) ≤ p * y := Int.mul_le_mul_of_nonneg_left (by omega) (by omega)
    rw [Int.mul_add] at h1
    unfold sgn; rw [if_pos (by omega)]
  · have h1 : p * (y + 1) ≤ p * x := Int.mul_le_mul_of_nonneg_left (by omega) (by omega)
    rw [Int.mul_add] at h1
    unfold sgn; rw [if_neg (by omega), if_pos (by omega)]
  · subst h; omega

set_option maxHeartbeats 2000000 in
theorem r1_Cmp (A : Option Addr) (c : Nat) (xs : List Int) (B : Option Addr) (d : Nat) (ys : List Int) (w : World) (h : In w A c xs) (hm : xs.length ≤ 2199023255552) (k : In w B d ys) (km : ys.length ≤ 2199023255552) :
    Calls Try.prog 112 #[.slice A xs.length c, .slice B ys.length d] w fun e w' => e = .returned (.int .i64 (sgn (V xs - V ys))) ∧ w' = w := by
  have HA := Lib.hid (fun (i : Nat) => r1_at A c xs i w h)
  have HB := Lib.hid (fun (i : Nat) => r1_at B d ys i w k)
  have L1 := Lib.hid h.lim
  have L2 := Lib.hid k.lim
  have hc := h.cap
  have kc := k.cap
  clear h k
  go_enter Try.func112, Try.ntmps112
  go_upto_if 12 with (fail)
  go_cut [5] (fun s5 wc => ∃ n : Nat, s5 = .int .i64 n ∧ xs.length ≤ n ∧ ys.length ≤ n ∧ n ≤ 2199023255552 ∧ Hid (wc = w))
  case first =>
    by_cases hlt : xs.length < ys.length
    · have hlt' : decide (xs.length < ys.length) = true := by simpa using hlt
      go_wp2
      go_meet
      case rel => exact ⟨ys.length, rfl, by omega, by omega, by omega, rfl⟩
    · have hlt' : decide (xs.length < ys.length) = false := by simpa using hlt
      go_wp2
      go_meet
      case rel => exact ⟨xs.length, rfl, by omega, by omega, by omega, rfl⟩
  case rest =>
    obtain ⟨n, rfl, hn1, hn2, hn3, HW⟩ := hcut
    have hw := HW.out
    subst hw
    clear HW
    go_wp2
    go_loopg [6] n (fun gg s6 wr => ∃ (k : Nat) (i : Int), i + 1 = k ∧ k ≤ n ∧ k ≤ gg ∧ s6 = .int .i64 i ∧ Hid (wr = wc) ∧ Hid (V xs - V ys = V (xs.take k) - V (ys.take k)))
    case atStart => exact ⟨n, (n : Int) - 1, by omega, by omega, by omega, by go_num, rfl, by show _ = _; rw [V_take_all hn1, V_take_all hn2]⟩
    case round =>
      obtain ⟨k, i, hi, hk, hg, rfl, HW, HE⟩ := hrel
      have hw := HW.out
      subst hw
      clear HW
      by_cases h0 : k = 0
      · subst h0
        have hiz : i = -1 := by omega
        subst hiz
        have hz : Hid (V xs - V ys = 0) := by show _ = _; rw [HE.out]; simp [V]
        go_wp2
        go_ret
        rw [hz.out]
        exact ⟨rfl, rfl⟩
      · obtain ⟨j, rfl⟩ : ∃ j, k = j + 1 := ⟨k - 1, by omega⟩
        obtain rfl : i = (j : Int) := by omega
        have hst := Lib.hid (sgn_top (d := V xs - V ys) (x := xs.getD j 0) (y := ys.getD j 0) (V_take_lt L1.out j) (V_take_lt L2.out j) (by rw [HE.out, V_take_getD, V_take_getD]))
        have b1 := L1.out.getD j
        have b2 := L2.out.getD j
        have HAj := Lib.hid (HA.out j)
        have HBj := Lib.hid (HB.out j)
        clear HE hi
        generalize xs.getD j 0 = x at *
        generalize ys.getD j 0 = y at *
        go_wp2_with fail
        refine HAj.out.mono ?_
        rintro e w' ⟨rfl, rfl⟩
        go_wp2_with fail
        refine HBj.out.mono ?_
        rintro e w' ⟨rfl, rfl⟩
        rcases Int.lt_trichotomy x y with hxy | hxy | hxy
        · have e9 := hst.out.1 hxy
          go_wp2
          go_ret
          rw [e9]
          exact ⟨rfl, rfl⟩
        · subst hxy
          have e9 := Lib.hid (hst.out.2.2 rfl)
          go_wp2_with fail
          refine HAj.out.mono ?_
          rintro e w' ⟨rfl, rfl⟩
          go_wp2_with fail
          refine HBj.out.mono ?_
          rintro e w' ⟨rfl, rfl⟩
          go_wp2
          go_roundg j
          case measure => omega
          case rel => exact ⟨j, (j : Int) - 1, by omega, by omega, by omega, by go_num, rfl, e9⟩
        · have e9 := hst.out.2.1 hxy
          have hnl : ¬ x < y := by omega
          go_wp2_with fail
          refine HAj.out.mono ?_
          rintro e w' ⟨rfl, rfl⟩
          go_wp2_with fail
          refine HBj.out.mono ?_
          rintro e w' ⟨rfl, rfl⟩
          go_wp2
          go_ret
          rw [e9]
          exact ⟨rfl, rfl⟩

set_option maxHeartbeats 2000000 in
theorem r1_Add (A : Option Addr) (c : Nat) (xs : List Int) (B : Option Addr) (d : Nat) (ys : List Int) (w : World) (h : In w A c xs) (hm : xs.length ≤ 1099511627776) (k : In w B d ys) (km : ys.length ≤ 1099511627776) :
    Calls Try.prog 111 #[.slice A xs.length c, .slice B ys.length d] w fun e w' => Told w (V xs + V ys) e w' := by
  have HA := Lib.hid (fun (W : World) (hb : Below w.heap.size w W) (i : Nat) => r1_at A c xs i W (h.below hb))
  have HB := Lib.hid (fun (W : World) (hb : Below w.heap.size w W) (i : Nat) => r1_at B d ys i W (k.below hb))
  have L1 := Lib.hid h.lim
  have L2 := Lib.hid k.lim
  have hc := h.cap
  have kc := k.cap
  clear h k
  generalize hS : V xs + V ys = S
  have HS := Lib.hid hS
  clear hS
  go_enter Try.func111, Try.ntmps111
  go_upto_if 15 with (fail)
  go_cut [5] (fun s5 wc => ∃ n : Nat, s5 = .int .i64 n ∧ xs.length ≤ n ∧ ys.length ≤ n ∧ n ≤ 1099511627776 ∧ Hid (wc = w))
  case first =>
    by_cases hlt : xs.length < ys.length
    · have hlt' : decide (xs.length < ys.length) = true := by simpa using hlt
      go_wp2
      go_meet
      case rel => exact ⟨ys.length, rfl, by omega, by omega, by omega, rfl⟩
    · have hlt' : decide (xs.length < ys.length) = false := by simpa using hlt
      go_wp2
      go_meet
      case rel => exact ⟨xs.length, rfl, by omega, by omega, by omega, rfl⟩
  case rest =>
    obtain ⟨n, rfl, hn1, hn2, hn3, HW⟩ := hcut
    have hw := HW.out
    subst hw
    clear HW
    have hmk := fun W => run_makeL (P := Try.prog) 27 96 Try.underlying27 info96 ((n : Int) + 1) (n + 1) (by omega) (by omega) W
    go_wp2
    clear hmk
    go_loopg [7, 8] (n + 1) (fun gg s7 s8 wr => ∃ (i : Nat) (cy : Int) (cs : List Int), i ≤ n + 1 ∧ n + 1 - i ≤ gg ∧ s8 = .int .i64 i ∧ s7 = .int .u64 cy ∧ 0 ≤ cy ∧ cy ≤ 1 ∧ cs.length ≤ n + 1 ∧ n + 1 ≤ cs.length ∧
      Hid (OwnN wr wc.heap.size cs) ∧ Hid (Below wc.heap.size wc wr) ∧ Hid (Lim cs) ∧ Hid (V (cs.take i) + Bp i * cy = V (xs.take i) + V (ys.take i)))
    case atStart => exact ⟨0, 0, List.replicate (n + 1) 0, by omega, by omega, rfl, rfl, by omega, by omega, by simp, by simp, own_zeros _ _ _, (Below.refl _ _).alloc (Nat.le_refl _) _, Lim.zeros _, by show _ = _; simp [V]⟩
    case round =>
      obtain ⟨i, cy, cs, hi, hg, rfl, rfl, hcy0, hcy1, hl1, hl2, HO, HD, HL, HE⟩ := hrel
      by_cases hle : i ≤ n
      · have hlez : (i : Int) ≤ (n : Int) := by omega
        have b1 := L1.out.getD i
        have b2 := L2.out.getD i
        have HV := Lib.hid (V_take_getD xs i)
        have KV := Lib.hid (V_take_getD ys i)
        have c3 := OwnN.cell HO.out i (by omega)
        have c4 := Own.frozen HO.out i
        have hst := Lib.hid (fun (y : Int) => V_take_set_succ (xs := cs) (k := i) (by omega) y)
        have HAi := Lib.hid (HA.out wr HD.out i)
        have HBi := Lib.hid (HB.out wr HD.out i)
        generalize xs.getD i 0 = x at *
        generalize ys.getD i 0 = y at *
        generalize cs[i] = z at c3
        have e1 : IntKind.u64.wrap (x + y) = x + y := u64w (by omega) (by omega)
        have e2 : IntKind.u64.wrap (x + y + cy) = x + y + cy := u64w (by omega) (by omega)
        have hnew : Hid (V ((cs.set i ((x + y + cy) % 4294967296)).take (i + 1)) + Bp (i + 1) * ((x + y + cy) / 4294967296) = V (xs.take (i + 1)) + V (ys.take (i + 1))) := by
          show _ = _; rw [hst.out, HV.out, KV.out]; exact add_step (by omega) HE.out
        clear hst HV KV HE
        go_wp2_with fail
        refine HAi.out.mono ?_
        clear HAi
        rintro e w' ⟨rfl, rfl⟩
        go_wp2_with fail
        refine HBi.out.mono ?_
        clear HBi
        rintro e w' ⟨rfl, rfl⟩
        go_wp2
        go_roundg (n + 1 - (i + 1))
        case measure => omega
        case rel =>
          exact ⟨i + 1, (x + y + cy) / 4294967296, cs.set i ((x + y + cy) % 4294967296), by omega, by omega, by go_num, rfl, by omega, by omega, by simpa using hl1, by simpa using hl2, OwnN.set HO.out _ _, HD.out.setCell (Nat.le_refl _) _, HL.out.set _ (by omega) (by omega), hnew⟩
      · have hi2 : i = n + 1 := by omega
        subst hi2
        have hlez : ¬ ((n + 1 : Nat) : Int) ≤ (n : Int) := by omega
        have hcy : Hid (cy = 0) := by
          show _ = _
          have h1 := V_lt L1.out
          have h2 := V_lt L2.out
          have h3 : Bp xs.length ≤ Bp n := Bp_le hn1
          have h4 : Bp ys.length ≤ Bp n := Bp_le hn2
          have h5 := HE.out
          rw [V_take_all (by omega), V_take_all (by omega), V_take_all (by omega), Bp_succ] at h5
          have h6 := V_nonneg HL.out
          have h7 := Bp_pos n
          by_cases hc1 : cy = 1
          · subst hc1; omega
          · omega
        have hV : Hid (V cs = S) := by
          show _ = _
          have h5 := HE.out
          rw [V_take_all (by omega), V_take_all (by omega), V_take_all (by omega), hcy.out, Int.mul_zero, Int.add_zero] at h5
          rw [h5]; exact HS.out
        have hN := Lib.hid (r1_Norm (some ⟨wc.heap.size, 0, none⟩) (n + 1) cs wr ⟨OwnN.row HO.out, HL.out, hl1⟩ (by omega))
        rw [hV.out, show cs.length = n + 1 by omega] at hN
        clear HE HL HO hcy hV
        go_wp2_with fail
        refine hN.out.mono ?_
        rintro e w' ⟨A', c', rfl, g1, g2, g3⟩
        have G2 := Lib.hid g2
        have G3 := Lib.hid (HD.out.trans (g3.mono HD.out.size))
        clear g2 g3
        go_wp2
        go_ret
        exact ⟨A', c', rfl, g1, G2.out, G3.out⟩

set_option maxHeartbeats 2000000 in
theorem r1_SubF (A : Option Addr) (c : Nat) (xs : List Int) (B : Option Addr) (d : Nat) (ys : List Int) (w : World) (h : In w A c xs) (hm : xs.length ≤ 1099511627776) (k : In w B d ys) (km : ys.length ≤ 1099511627776) (hle : V ys ≤ V xs) :
    Calls Try.prog 113 #[.slice A xs.length c, .slice B ys.length d] w fun e w' =>
      ∃ A' c', e = .returned (.tuple #[.slice A' (dg (V xs - V ys).toNat).length c', .int .i64 0]) ∧ (dg (V xs - V ys).toNat).length ≤ c' ∧ Rn w' A' (dg (V xs - V ys).toNat) ∧ Below w.heap.size w w' ∧ ∀ ad, A' = some ad → w.heap.size ≤ ad.block := by
  have HC := Lib.hid (r1_Cmp A c xs B d ys w h (by omega) k (by omega))
  have HA := Lib.hid (fun (W : World) (hb : Below w.heap.size w W) (i : Nat) => r1_at A c xs i W (h.below hb))
  have HB := Lib.hid (fun (W : World) (hb : Below w.heap.size w W) (i : Nat) => r1_at B d ys i W (k.below hb))
  have L1 := Lib.hid h.lim
  have L2 := Lib.hid k.lim
  have hc := h.cap
  have kc := k.cap
  clear h k
  have hsg : 0 ≤ sgn (V xs - V ys) := by unfold sgn; repeat' split <;> omega
  generalize sgn (V xs - V ys) = sg at *
  have hmk := fun W => run_makeL (P := Try.prog) 27 96 Try.underlying27 info96 (xs.length : Int) xs.length (by omega) (by omega) W
  go_enter Try.func113, Try.ntmps113
  go_wp2_with fail
  refine HC.out.mono ?_
  clear HC
  rintro e w' ⟨rfl, rfl⟩
  go_wp2
  clear hmk
  go_loopg [7, 8] xs.length (fun gg s7 s8 wr => ∃ (i : Nat) (cy : Int) (cs : List Int), i ≤ xs.length ∧ xs.length - i ≤ gg ∧ s8 = .int .i64 i ∧ s7 = .int .u64 cy ∧ 0 ≤ cy ∧ cy ≤ 1 ∧ cs.length ≤ xs.length ∧ xs.length ≤ cs.length ∧
      Hid (OwnN wr w'.heap.size cs) ∧ Hid (Below w'.heap.size w' wr) ∧ Hid (Lim cs) ∧ Hid (V (cs.take i) - Bp i * cy = V (xs.take i) - V (ys.take i)))
  case atStart => exact ⟨0, 0, List.replicate xs.length 0, by omega, by omega, rfl, rfl, by omega, by omega, by simp, by simp, own_zeros _ _ _, (Below.refl _ _).alloc (Nat.le_refl _) _, Lim.zeros _, by show _ = _; simp [V]⟩
  case round =>
    obtain ⟨i, cy, cs, hi, hg, rfl, rfl, hcy0, hcy1, hl1, hl2, HO, HD, HL, HE⟩ := hrel
    by_cases hlt : i < xs.length
    · have hltz : (i : Int) < (xs.length : Int) := by omega
      have b1 := L1.out.getD i
      have b2 := L2.out.getD i
      have HV := Lib.hid (V_take_getD xs i)
      have KV := Lib.hid (V_take_getD ys i)
      have c3 := OwnN.cell HO.out i (by omega)
      have c4 := Own.frozen HO.out i
      have hst := Lib.hid (fun (y : Int) => V_take_set_succ (xs := cs) (k := i) (by omega) y)
      have HAi := Lib.hid (HA.out wr HD.out i)
      have HBi := Lib.hid (HB.out wr HD.out i)
      generalize xs.getD i 0 = x at *
      generalize ys.getD i 0 = y at *
      generalize cs[i] = z at c3
      obtain ⟨u, hu⟩ : ∃ u, u = IntKind.u64.wrap (x - y) := ⟨_, rfl⟩
      obtain ⟨v, hv⟩ : ∃ v, v = IntKind.u64.wrap (u - cy) := ⟨_, rfl⟩
      have e1 := hu.symm
      have e2 := hv.symm
      have e3 : Hid (v % 4294967296 = (x - y - cy) % 4294967296 ∧ v / 9223372036854775808 = if x - y - cy < 0 then 1 else 0) := by
        show _ ∧ _
        rw [IntKind.wrap_u64] at hu hv
        constructor
        · omega
        · split <;> omega
      have vb : 0 ≤ v / 9223372036854775808 ∧ v / 9223372036854775808 ≤ 1 := by rw [e3.out.2]; split <;> omega
      have hnew : Hid (V ((cs.set i (v % 4294967296)).take (i + 1)) - Bp (i + 1) * (v / 9223372036854775808) = V (xs.take (i + 1)) - V (ys.take (i + 1))) := by
        show _ = _
        have hx : x - y - cy = (x - y - cy) % 4294967296 - 4294967296 * (if x - y - cy < 0 then 1 else 0) := by split <;> omega
        rw [hst.out, HV.out, KV.out, e3.out.1, e3.out.2]
        exact sub_step hx HE.out
      clear hst HV KV HE hu hv e3
      go_wp2_with fail
      refine HAi.out.mono ?_
      clear HAi
      rintro e w'' ⟨rfl, rfl⟩
      go_wp2_with fail
      refine HBi.out.mono ?_
      clear HBi
      rintro e w'' ⟨rfl, rfl⟩
      go_wp2
      go_roundg (xs.length - (i + 1))
      case measure => omega
      case rel =>
        exact ⟨i + 1, v / 9223372036854775808, cs.set i (v % 4294967296), by omega, by omega, by go_num, rfl, by omega, by omega, by simpa using hl1, by simpa using hl2, OwnN.set HO.out _ _, HD.out.setCell (Nat.le_refl _) _, HL.out.set _ (by omega) (by omega), hnew⟩
    · have hltz : ¬ (i : Int) < (xs.length : Int) := by omega
      have hi2 : i = xs.length := by omega
      have hV : Hid (V cs = V xs - V ys) := by
        show _ = _
        have h5 := HE.out
        have h1 := V_lt L1.out
        have h2 := V_lt HL.out
        have h6 := V_nonneg HL.out
        have hyl := V_split ys i
        rw [hi2] at h5 hyl
        have hp := Bp_pos xs.length
        have hy0 : V (ys.take xs.length) = V ys := by
          by_cases hyy : xs.length ≤ ys.length
          · have h9 := hyl hyy
            have h7 := V_nonneg (L2.out.drop xs.length)
            have h8 := V_nonneg (L2.out.take xs.length)
            rcases Int.lt_or_eq_of_le h7 with h10 | h10
            · have h11 : Bp xs.length * 1 ≤ Bp xs.length * V (ys.drop xs.length) := Int.mul_le_mul_of_nonneg_left (by omega) (by omega)
              omega
            · rw [← h10] at h9; omega
          · rw [V_take_all (by omega)]
        rw [hy0, V_take_all (by omega), V_take_all (Nat.le_refl _)] at h5
        have hll : cs.length = xs.length := by omega
        rw [hll] at h2
        have hcy : cy = 0 ∨ cy = 1 := by omega
        rcases hcy with rfl | rfl
        · omega
        · omega
      have hN := Lib.hid (r1_NormF (some ⟨w'.heap.size, 0, none⟩) xs.length cs wr ⟨OwnN.row HO.out, HL.out, hl1⟩ (by omega))
      rw [hV.out, show cs.length = xs.length by omega] at hN
      clear HE HL HO hV hi2
      go_wp2_with fail
      refine hN.out.mono ?_
      rintro e w'' ⟨A', c', rfl, g1, g2, g3, g4⟩
      have G4 := Lib.hid (fun ad (h9 : A' = some ad) => Nat.le_trans HD.out.size (g4 ad h9))
      clear g4
      have G2 := Lib.hid g2
      have G3 := Lib.hid (HD.out.trans (g3.mono HD.out.size))
      clear g2 g3
      go_wp2
      go_ret2
      exact ⟨A', c', rfl, g1, G2.out, G3.out, G4.out⟩
theorem r1_Sub (A : Option Addr) (c : Nat) (xs : List Int) (B : Option Addr) (d : Nat) (ys : List Int) (w : World) (h : In w A c xs) (hm : xs.length ≤ 1099511627776) (k : In w B d ys) (km : ys.length ≤ 1099511627776) (hle : V ys ≤ V xs) :
    Calls Try.prog 113 #[.slice A xs.length c, .slice B ys.length d] w fun e w' =>
      ∃ A' c', e = .returned (.tuple #[.slice A' (dg (V xs - V ys).toNat).length c', .int .i64 0]) ∧ (dg (V xs - V ys).toNat).length ≤ c' ∧ Rn w' A' (dg (V xs - V ys).toNat) ∧ Below w.heap.size w w' :=
  (r1_SubF A c xs B d ys w h hm k km hle).mono fun _ _ ⟨A', c', h1, h2, h3, h4, _⟩ => ⟨A', c', h1, h2, h3, h4⟩
end Go.Proofs.Ytchdoignomidjaa.F

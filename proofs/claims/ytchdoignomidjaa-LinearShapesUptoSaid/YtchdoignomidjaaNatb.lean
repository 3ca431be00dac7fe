/- The walks of package nat, second part: Of, Add, Sub. Conditions: the limbs are limbs, lengths below 2^40. -/
import Derived.Test.YtchdoignomidjaaNat
import Derived.Test.YtchdoignomidjaaBits
set_option linter.unusedVariables false
set_option linter.unusedSimpArgs false
namespace Go.Proofs.Ytchdoignomidjaa.F
open Go.RowKit Go.Shelf

/-- what a function that tells a number tells: in memory of w or newer, its normal form -/
def Told (w : World) (n : Int) (e : Ending) (w' : World) : Prop :=
  ∃ A c, e = .returned (.slice A (dg n.toNat).length c) ∧ (dg n.toNat).length ≤ c ∧ Rn w' A (dg n.toNat) ∧ Below w.heap.size w w'
theorem Told.mk {w : World} {n : Int} {xs : List Int} {A : Option Addr} {c : Nat} {w' : World} (h : xs = dg n.toNat) (hc : xs.length ≤ c) (hr : Rn w' A xs) (hb : Below w.heap.size w w') :
    Told w n (.returned (.slice A xs.length c)) w' := by
  subst h; exact ⟨A, c, rfl, hc, hr, hb⟩

theorem nat_own' (A : Option Addr) (n c : Nat) (xs : List Int) (w : World) (hn : xs.length = n) (h : Rn w A xs) (hl : Lim xs) (hc : n ≤ c) (hm : n ≤ 1099511627776) :
    Calls Try.prog 116 #[.slice A n c] w fun e w' => Told w (V xs) e w' := by
  subst hn
  exact (nat_own A c xs w h hl hc hm).mono fun e w' ⟨A', c', he, h1, h2, h3⟩ => by rw [he]; exact Told.mk rfl h1 h2 h3

set_option maxHeartbeats 2000000 in
theorem nat_Add (A : Option Addr) (c : Nat) (xs : List Int) (B : Option Addr) (d : Nat) (ys : List Int) (w : World) (h : Rn w A xs) (hl : Lim xs) (hc : xs.length ≤ c) (hm : xs.length ≤ 549755813888)
    (k : Rn w B ys) (kl : Lim ys) (kc : ys.length ≤ d) (km : ys.length ≤ 549755813888) :
    Calls Try.prog 131 #[.slice A xs.length c, .slice B ys.length d] w fun e w' => Told w (V xs + V ys) e w' := by
  have H1 := Lib.hid h
  have H2 := Lib.hid hl
  have K1 := Lib.hid k
  have K2 := Lib.hid kl
  clear h hl k kl
  generalize hS : V xs + V ys = S
  have HS := Lib.hid hS
  clear hS
  go_enter Try.func131, Try.ntmps131
  go_upto_if 13 with (fail)
  go_cut [0, 1] (fun s0 s1 wc => ∃ A c us B d vs, s0 = .slice A (List.length us) c ∧ s1 = .slice B (List.length vs) d ∧ List.length us ≤ 549755813888 ∧ List.length vs ≤ List.length us ∧ Hid (wc = w) ∧ Hid (V us + V vs = S) ∧ Hid (Rn w A us) ∧ Hid (Rn w B vs) ∧ Hid (Lim us) ∧ Hid (Lim vs) ∧ Hid (List.length us ≤ c))
  case first =>
    by_cases hlt : xs.length < ys.length
    · have hlt' : decide (xs.length < ys.length) = true := by simpa using hlt
      go_wp2
      go_meet
      case rel => exact ⟨B, d, ys, A, c, xs, rfl, rfl, km, by omega, rfl, by show _ = _; rw [← HS.out]; omega, K1, H1, K2, H2, kc⟩
    · have hlt' : decide (xs.length < ys.length) = false := by simpa using hlt
      go_wp2
      go_meet
      case rel => exact ⟨A, c, xs, B, d, ys, rfl, rfl, hm, by omega, rfl, HS, H1, K1, H2, K2, hc⟩
  case rest =>
    clear H1 H2 K1 K2 HS hm km hc kc
    obtain ⟨A, c, us, B, d, vs, rfl, rfl, hm, hle, HW, HS, H1, K1, H2, K2, hc⟩ := hcut
    have hw := HW.out
    subst hw
    clear HW
    have hmk := fun W => run_makeL (P := Try.prog) 27 96 Try.underlying27 info96 ((us.length : Int) + 1) (us.length + 1) (by omega) (by omega) W
    go_wp2
    clear hmk
    go_loopg [6, 22] us.length (fun gg s6 s22 wr => ∃ (k : Nat) (cy : Int) (cs : List Int), k ≤ us.length ∧ us.length - k ≤ gg ∧ s22 = .int .i64 k ∧ s6 = .int .u32 cy ∧ 0 ≤ cy ∧ cy ≤ 1 ∧ cs.length ≤ us.length + 1 ∧ us.length + 1 ≤ cs.length ∧
      Hid (OwnN wr wc.heap.size cs) ∧ Hid (Below wc.heap.size wc wr) ∧ Hid (Lim cs) ∧ Hid (V (cs.take k) + Bp k * cy = V (us.take k) + V (vs.take k)))
    case atStart => exact ⟨0, 0, List.replicate (us.length + 1) 0, Nat.zero_le _, by omega, rfl, rfl, by omega, by omega, by simp, by simp, own_zeros _ _ _, (Below.refl _ _).alloc (Nat.le_refl _) _, Lim.zeros _, by show _ = _; simp [V]⟩
    case round =>
      obtain ⟨k, cy, cs, hk, hg, rfl, rfl, hcy0, hcy1, hl1, hl2, HO, HB, HL, HE⟩ := hrel
      by_cases hlt : k < us.length
      · have hltz : (k : Int) < (us.length : Int) := by omega
        obtain ⟨ad, rfl, hcell⟩ := Knd.at_int H1.out k hlt
        have c1 := cell_below HB.out hcell
        have b1 := H2.out.get k hlt
        have e1 : us[k] = us.getD k 0 := by simp [List.getD, List.getElem?_eq_getElem hlt]
        rw [e1] at c1 b1
        have b2 := K2.out.getD k
        have HV := Lib.hid (V_take_getD us k)
        have KV := Lib.hid (V_take_getD vs k)
        have c3 := OwnN.cell HO.out k (by omega)
        have c4 := Own.frozen HO.out k
        have hst := Lib.hid (fun (y : Int) => V_take_set_succ (xs := cs) (k := k) (by omega) y)
        have HA := fun x : Int => Lib.hid (bits_Add32 (us.getD k 0) x cy wr b1)
        clear hcell e1
        by_cases hl : k < vs.length
        · have hlz : (k : Int) < (vs.length : Int) := by omega
          obtain ⟨bd, rfl, hcell⟩ := Knd.at_int K1.out k hl
          have c2 := cell_below HB.out hcell
          rw [show vs[k] = vs.getD k 0 by simp [List.getD, List.getElem?_eq_getElem hl]] at c2
          clear hcell
          generalize us.getD k 0 = x at *
          generalize vs.getD k 0 = y at *
          generalize cs[k] = z at c3
          go_wp2_with fail
          refine ((HA y).out b2 ⟨hcy0, hcy1⟩).mono ?_
          clear HA
          rintro e w' ⟨rfl, rfl⟩
          go_wp2
          go_roundg (us.length - (k + 1))
          case measure => omega
          case rel =>
            exact ⟨k + 1, (x + y + cy) / 4294967296, cs.set k ((x + y + cy) % 4294967296), by omega, by omega, by go_num, rfl, by omega, by omega, by simpa using hl1, by simpa using hl2, OwnN.set HO.out _ _, HB.out.setCell (Nat.le_refl _) _,
              HL.out.set _ (by omega) (by omega), by show _ = _; rw [hst.out, HV.out, KV.out]; exact add_step (by omega) HE.out⟩
        · have hlz : ¬ (k : Int) < (vs.length : Int) := by omega
          have e2 : vs.getD k 0 = 0 := by simp [List.getD, List.getElem?_eq_none (show vs.length ≤ k by omega)]
          rw [e2] at KV
          clear b2 e2
          generalize us.getD k 0 = x at *
          generalize cs[k] = z at c3
          go_wp2_with fail
          refine ((HA 0).out ⟨by omega, by omega⟩ ⟨hcy0, hcy1⟩).mono ?_
          clear HA
          rintro e w' ⟨rfl, rfl⟩
          go_wp2
          go_roundg (us.length - (k + 1))
          case measure => omega
          case rel =>
            exact ⟨k + 1, (x + 0 + cy) / 4294967296, cs.set k ((x + 0 + cy) % 4294967296), by omega, by omega, by go_num, by simp, by omega, by omega, by simpa using hl1, by simpa using hl2, (show OwnN _ _ _ from by simpa using OwnN.set HO.out k ((x + 0 + cy) % 4294967296)), HB.out.setCell (Nat.le_refl _) _,
              HL.out.set _ (by omega) (by omega), by show _ = _; rw [hst.out, HV.out, KV.out]; exact add_step (by omega) HE.out⟩
      · have hltz : ¬ (k : Int) < (us.length : Int) := by omega
        have hkl : Hid (k = us.length) := by show _ = _; omega
        have c3 := OwnN.cell HO.out us.length (by omega)
        have c4 := Own.frozen HO.out us.length
        generalize cs[us.length] = z at c3
        have HO2 := Lib.hid (OwnN.set HO.out us.length cy)
        have HL2 := Lib.hid (HL.out.set us.length (y := cy) (by omega) (by omega))
        have HE2 : Hid (V (cs.set us.length cy) = S) := by
          show _ = _
          have h1 := V_take_set_succ (xs := cs) (k := us.length) (by omega) cy
          have h2 := HE.out
          rw [hkl.out] at h2
          rw [V_take_all (by simp; omega)] at h1
          rw [h1, h2, V_take_all (Nat.le_refl _), V_take_all hle]
          exact HS.out
        have hlen : Hid ((cs.set us.length cy).length = us.length + 1) := by show _ = _; simp; omega
        generalize cs.set us.length cy = rs at HO2 HL2 HE2 hlen
        clear HE HL HO
        go_wp2_with fail
        have HB2 := Lib.hid (HB.out.setCell (p := ⟨wc.heap.size, us.length, none⟩) (Nat.le_refl _) (.int .u32 cy))
        refine (nat_own' (some ⟨wc.heap.size, 0, none⟩) (us.length + 1) (us.length + 1) rs _ hlen.out (OwnN.row HO2.out) HL2.out (Nat.le_refl _) (by omega)).mono ?_
        rintro e w' ⟨A', c', rfl, g1, g2, g3⟩
        rw [HE2.out]
        have G2 := Lib.hid g2
        have G3 := Lib.hid (HB2.out.trans (g3.mono HB2.out.size))
        rw [HE2.out] at G2 g1
        clear g2 g3
        go_wp2
        go_ret
        exact ⟨A', c', rfl, g1, G2.out, G3.out⟩

set_option maxHeartbeats 2000000 in
/-- the difference, where it is one -/
theorem nat_Sub (A : Option Addr) (c : Nat) (xs : List Int) (B : Option Addr) (d : Nat) (ys : List Int) (w : World) (h : Rn w A xs) (hl : Lim xs) (hc : xs.length ≤ c) (hm : xs.length ≤ 1099511627776)
    (k : Rn w B ys) (kl : Lim ys) (kc : ys.length ≤ d) (km : ys.length ≤ 1099511627776) (hle : V ys ≤ V xs) :
    Calls Try.prog 132 #[.slice A xs.length c, .slice B ys.length d] w fun e w' =>
      ∃ A' c', e = .returned (.tuple #[.slice A' (dg (V xs - V ys).toNat).length c', .int .i64 0]) ∧ (dg (V xs - V ys).toNat).length ≤ c' ∧ Rn w' A' (dg (V xs - V ys).toNat) ∧ Below w.heap.size w w' := by
  have HC := Lib.hid (nat_Cmp A c xs B d ys w h hl hc hm k kl kc km)
  have HT := Lib.hid (fun (W : World) (hb : Below w.heap.size w W) => nat_trim B d ys W (k.below hb) kl kc km)
  have hlen : (nf ys).length ≤ xs.length := by
    have h1 := V_nonneg hl
    have h2 := V_nonneg kl
    have := dg_length_mono (show (V ys).toNat ≤ (V xs).toNat by omega)
    exact Nat.le_trans this (nf_len hl)
  have hVy := Lib.hid (V_nf kl)
  have hsg : 0 ≤ sgn (V xs - V ys) := by unfold sgn; rw [if_neg (by omega)]; split <;> omega
  have K2 := Lib.hid (Lim_nf ys)
  rw [← hVy.out] at hle ⊢
  generalize nf ys = vs at *
  generalize sgn (V xs - V ys) = sg at *
  have H1 := Lib.hid h
  have H2 := Lib.hid hl
  have HLE := Lib.hid hle
  clear h hl k kl hle hVy
  go_enter Try.func132, Try.ntmps132
  go_wp2_with fail
  refine HC.out.mono ?_
  clear HC
  rintro e w1 ⟨rfl, hb1⟩
  have HB1 := Lib.hid hb1
  clear hb1
  go_wp2_with fail
  refine (HT.out _ HB1.out).mono ?_
  clear HT
  rintro e wc ⟨rfl, k1, hb2⟩
  have K1 := Lib.hid k1
  have HBc := Lib.hid (HB1.out.trans (hb2.mono HB1.out.size))
  have H1' := Lib.hid (H1.out.below HBc.out)
  clear k1 hb2 HB1 H1 hsg
  have hmk := fun W => run_makeL (P := Try.prog) 27 96 Try.underlying27 info96 (xs.length : Int) xs.length rfl (by omega) W
  go_wp2
  clear hmk
  go_loopg [7, 21] xs.length (fun gg s6 s22 wr => ∃ (k : Nat) (cy : Int) (cs : List Int), k ≤ xs.length ∧ xs.length - k ≤ gg ∧ s22 = .int .i64 k ∧ s6 = .int .u32 cy ∧ 0 ≤ cy ∧ cy ≤ 1 ∧ cs.length ≤ xs.length ∧ xs.length ≤ cs.length ∧
    Hid (OwnN wr wc.heap.size cs) ∧ Hid (Below wc.heap.size wc wr) ∧ Hid (Lim cs) ∧ Hid (V (cs.take k) - Bp k * cy = V (xs.take k) - V (vs.take k)))
  case atStart => exact ⟨0, 0, List.replicate xs.length 0, Nat.zero_le _, by omega, rfl, rfl, by omega, by omega, by simp, by simp, own_zeros _ _ _, (Below.refl _ _).alloc (Nat.le_refl _) _, Lim.zeros _, by show _ = _; simp [V]⟩
  case round =>
    obtain ⟨k, cy, cs, hk, hg, rfl, rfl, hcy0, hcy1, hl1, hl2, HO, HB, HL, HE⟩ := hrel
    by_cases hlt : k < xs.length
    · have hltz : (k : Int) < (xs.length : Int) := by omega
      obtain ⟨ad, rfl, hcell⟩ := Knd.at_int H1'.out k hlt
      have c1 := cell_below HB.out hcell
      have b1 := H2.out.get k hlt
      have e1 : xs[k] = xs.getD k 0 := by simp [List.getD, List.getElem?_eq_getElem hlt]
      rw [e1] at c1 b1
      have b2 := K2.out.getD k
      have HV := Lib.hid (V_take_getD xs k)
      have KV := Lib.hid (V_take_getD vs k)
      have c3 := OwnN.cell HO.out k (by omega)
      have c4 := Own.frozen HO.out k
      have hst := Lib.hid (fun (y : Int) => V_take_set_succ (xs := cs) (k := k) (by omega) y)
      have HA := fun x : Int => Lib.hid (bits_Sub32 (xs.getD k 0) x cy wr b1)
      clear hcell e1
      by_cases hl : k < vs.length
      · have hlz : (k : Int) < (vs.length : Int) := by omega
        obtain ⟨bd, rfl, hcell⟩ := Knd.at_int K1.out k hl
        have c2 := cell_below HB.out hcell
        rw [show vs[k] = vs.getD k 0 by simp [List.getD, List.getElem?_eq_getElem hl]] at c2
        clear hcell
        generalize xs.getD k 0 = x at *
        generalize vs.getD k 0 = y at *
        generalize cs[k] = z at c3
        go_wp2_with fail
        refine ((HA y).out b2 ⟨hcy0, hcy1⟩).mono ?_
        clear HA
        rintro e w' ⟨rfl, rfl⟩
        go_wp2
        go_roundg (xs.length - (k + 1))
        case measure => omega
        case rel =>
          exact ⟨k + 1, bor x (y + cy), cs.set k ((x - y - cy) % 4294967296), by omega, by omega, by go_num, rfl, by unfold bor; split <;> omega, by unfold bor; split <;> omega, by simpa using hl1, by simpa using hl2, OwnN.set HO.out _ _, HB.out.setCell (Nat.le_refl _) _,
            HL.out.set _ (by omega) (by omega), by show _ = _; rw [hst.out, HV.out, KV.out]; exact sub_step (by unfold bor; split <;> omega) HE.out⟩
      · have hlz : ¬ (k : Int) < (vs.length : Int) := by omega
        have e2 : vs.getD k 0 = 0 := by simp [List.getD, List.getElem?_eq_none (show vs.length ≤ k by omega)]
        rw [e2] at KV
        clear b2 e2
        generalize xs.getD k 0 = x at *
        generalize cs[k] = z at c3
        go_wp2_with fail
        refine ((HA 0).out ⟨by omega, by omega⟩ ⟨hcy0, hcy1⟩).mono ?_
        clear HA
        rintro e w' ⟨rfl, rfl⟩
        go_wp2
        go_roundg (xs.length - (k + 1))
        case measure => omega
        case rel =>
          exact ⟨k + 1, bor x (0 + cy), cs.set k ((x - 0 - cy) % 4294967296), by omega, by omega, by go_num, by simp, by unfold bor; split <;> omega, by unfold bor; split <;> omega, by simpa using hl1, by simpa using hl2, (show OwnN _ _ _ from by simpa using OwnN.set HO.out k ((x - 0 - cy) % 4294967296)), HB.out.setCell (Nat.le_refl _) _,
            HL.out.set _ (by omega) (by omega), by show _ = _; rw [hst.out, HV.out, KV.out]; exact sub_step (by unfold bor; split <;> omega) HE.out⟩
    · have hltz : ¬ (k : Int) < (xs.length : Int) := by omega
      have hkl : Hid (k = xs.length) := by show _ = _; omega
      have HE2 : Hid (V cs = V xs - V vs) := by
        show _ = _
        have h2 := HE.out
        rw [hkl.out, V_take_all hl1, V_take_all (Nat.le_refl _), V_take_all hlen] at h2
        have h3 := V_nonneg HL.out
        have h4 := V_lt HL.out
        have h5 := V_lt H2.out
        have h6 := V_nonneg K2.out
        rw [show cs.length = xs.length by omega] at h4
        have h7 := HLE.out
        rcases (show cy = 0 ∨ cy = 1 by omega) with h8 | h8 <;> rw [h8] at h2 <;> omega
      clear HE
      go_wp2_with fail
      refine (nat_own' (some ⟨wc.heap.size, 0, none⟩) xs.length xs.length cs _ (by omega) (OwnN.row HO.out) HL.out (Nat.le_refl _) (by omega)).mono ?_
      rintro e w' ⟨A', c', rfl, g1, g2, g3⟩
      rw [HE2.out] at *
      have G2 := Lib.hid g2
      have G3 := Lib.hid (HBc.out.trans ((HB.out.trans (g3.mono HB.out.size)).mono HBc.out.size))
      clear g2 g3
      go_wp2
      go_ret2
      exact ⟨A', c', rfl, g1, G2.out, G3.out⟩
end Go.Proofs.Ytchdoignomidjaa.F

/- The walks of the reference's layer 1, third part: Mul, twice, Bit. -/
import Derived.Test.YtchdoignomidjaaRefb
set_option linter.unusedVariables false
set_option linter.unusedSimpArgs false
namespace Go.Proofs.Ytchdoignomidjaa.F
open Go.RowKit Go.Shelf Go.Proofs.YtchdoignomidjaaW.PrintLast

set_option maxHeartbeats 4000000 in
theorem r1_Mul (A : Option Addr) (c : Nat) (us : List Int) (B : Option Addr) (d : Nat) (vs : List Int) (w : World) (h : In w A c us) (hm : us.length ≤ 549755813888) (k : In w B d vs) (km : vs.length ≤ 549755813888) :
    Calls Try.prog 77 #[.slice A us.length c, .slice B vs.length d] w fun e w' => Told w (V us * V vs) e w' := by
  have hc := h.cap
  have kc := k.cap
  have H1' := Lib.hid h.row
  have H2 := Lib.hid h.lim
  have K1 := Lib.hid k.row
  have K2 := Lib.hid k.lim
  have HBc := Lib.hid (Below.refl w.heap.size w)
  clear h k
  have hmk := fun W => run_makeL (P := Try.prog) 27 96 Try.underlying27 info96 ((us.length : Int) + (vs.length : Int)) (us.length + vs.length) (by omega) (by omega) W
  go_enter Try.func77, Try.ntmps77
  go_wp2
  clear hmk
  go_loopg [6] us.length (fun gg s22 wr => ∃ (i : Nat) (cs : List Int), i ≤ us.length ∧ us.length - i ≤ gg ∧ s22 = .int .i64 i ∧ cs.length ≤ us.length + vs.length ∧ us.length + vs.length ≤ cs.length ∧
    Hid (OwnN wr w.heap.size cs) ∧ Hid (Below w.heap.size w wr) ∧ Hid (Lim cs) ∧ Hid (V cs = V (us.take i) * V vs) ∧ Hid (∀ j (hj : j < cs.length), i + vs.length ≤ j → cs[j] = 0))
  case atStart =>
    refine ⟨0, List.replicate (us.length + vs.length) 0, Nat.zero_le _, by omega, rfl, by simp, by simp, own_zeros _ _ _, (Below.refl _ _).alloc (Nat.le_refl _) _, Lim.zeros _, ?_, ?_⟩
    · show _ = _
      rw [V_zeros]
      simp [V]
    · intro j hj _
      simp
  case round =>
    obtain ⟨i, cs, hi, hg, rfl, hl1, hl2, HO, HB, HL, HE, HZ⟩ := hrel
    by_cases hlt : i < us.length
    · have hltz : (i : Int) < (us.length : Int) := by omega
      obtain ⟨ad, rfl, hcell⟩ := Knd.at_int H1'.out i hlt
      have b1 := H2.out.get i hlt
      have HV := Lib.hid (V_take_succ hlt)
      generalize us[i] = x at *
      have HC1 := Lib.hid hcell
      clear hcell
      go_wp2
      obtain ⟨wo, HWO⟩ : ∃ wo : World, Hid (wo = wr) := ⟨_, rfl⟩
      have HO' := Lib.hid HO.out
      go_loopg [7, 8] vs.length (fun gg s7 s27 wr => ∃ (k : Nat) (cy : Int) (ds : List Int), k ≤ vs.length ∧ vs.length - k ≤ gg ∧ s27 = .int .i64 k ∧ s7 = .int .u64 cy ∧ 0 ≤ cy ∧ cy < 4294967296 ∧ ds.length ≤ us.length + vs.length ∧ us.length + vs.length ≤ ds.length ∧
        Hid (OwnN wr w.heap.size ds) ∧ Hid (Below w.heap.size w wr) ∧ Hid (Lim ds) ∧ Hid (V ds + Bp (i + k) * cy = V (us.take i) * V vs + Bp i * x * V (vs.take k)) ∧ Hid (∀ j (hj : j < ds.length), i + vs.length ≤ j → ds[j] = 0))
      case atStart =>
        exact ⟨0, 0, cs, Nat.zero_le _, by omega, rfl, rfl, by omega, by omega, hl1, hl2, HO, HB, HL, by show _ = _; rw [HE.out]; simp [V], HZ⟩
      case round =>
        clear HO HB HL HE HZ hl1 hl2 HO' HWO
        obtain ⟨k, cy, ds, hk, hgi, rfl, rfl, hcy0, hcy1, hl1, hl2, HO, HB, HL, HE, HZ⟩ := hrel
        by_cases hlk : k < vs.length
        · have hlkz : (k : Int) < (vs.length : Int) := by omega
          obtain ⟨bd, rfl, hcell⟩ := Knd.at_int K1.out k hlk
          have c2 := cell_below HB.out hcell
          have c1 := cell_below HB.out HC1.out
          have b2 := K2.out.get k hlk
          have KV := Lib.hid (V_take_succ hlk)
          have c3 := OwnN.cell HO.out (i + k) (by omega)
          have c4 := Own.frozen HO.out (i + k)
          have b3 := HL.out.get (i + k) (by omega)
          have hst := Lib.hid (fun (y : Int) => V_set (xs := ds) (i := i + k) (by omega) y)
          have hle := mul_le_max b1 b2
          generalize vs[k] = y at *
          generalize ds[i + k]'(by omega) = z at *
          clear hcell
          obtain ⟨p, hp⟩ : ∃ p, p = x * y := ⟨_, rfl⟩
          have HP := Lib.hid hp
          rw [← hp] at hle
          clear hp
          have q1 : IntKind.u64.wrap (x * y) = p := by rw [← HP.out, u64w (by omega) (by omega)]
          have q2 : IntKind.i64.wrap ((i : Int) + (k : Int)) = (i : Int) + (k : Int) := i64w (by omega) (by omega)
          have q3 : ((i : Int) + (k : Int)).toNat = i + k := by omega
          have q4 : 0 ≤ (i : Int) + (k : Int) := by omega
          have q5 : (i : Int) + (k : Int) < (us.length : Int) + (vs.length : Int) := by omega
          go_wp2
          go_quiet (fail)
          go_wp2
          go_roundg (vs.length - (k + 1))
          case measure => omega
          case rel =>
            have ht : p + z + cy = (p + z + cy) % 4294967296 + 4294967296 * ((p + z + cy) / 4294967296) := by omega
            refine ⟨k + 1, (p + z + cy) / 4294967296, ds.set (i + k) ((p + z + cy) % 4294967296), by omega, by omega, by go_num, rfl, by omega, by omega, by simpa using hl1, by simpa using hl2, ?_, ?_, HL.out.set _ (by omega) (by omega), ?_, ?_⟩
            · first | exact OwnN.set HO.out _ _ | exact OwnN.set (Own.drewN HO.out _) _ _ | exact Own.drewN (OwnN.set HO.out _ _) _
            · first | exact (below_drewN HB.out _).setCell (Nat.le_refl _) _ | exact below_drewN (HB.out.setCell (Nat.le_refl _) _) _
            · show _ = _
              rw [KV.out]
              exact mul_step (by rw [← HP.out]; exact ht) (hst.out _) HE.out
            · intro j hj hle2
              rw [List.getElem_set_ne (show i + k ≠ j by omega)]
              exact HZ.out j (by simpa using hj) hle2
        · have hlkz : ¬ (k : Int) < (vs.length : Int) := by omega
          have hkl : k = vs.length := by omega
          subst hkl
          have c3 := OwnN.cell HO.out (i + vs.length) (by omega)
          have c4 := Own.frozen HO.out (i + vs.length)
          rw [HZ.out (i + vs.length) (by omega) (Nat.le_refl _)] at c3
          have hst := Lib.hid (fun (y : Int) => V_set (xs := ds) (i := i + vs.length) (by omega) y)
          have hz := Lib.hid (HZ.out (i + vs.length) (by omega) (Nat.le_refl _))
          have q1 : (i : Int) + (vs.length : Int) < (us.length : Int) + (vs.length : Int) := by omega
          go_wp2
          go_roundg (us.length - (i + 1))
          case measure => omega
          case rel =>
            refine ⟨i + 1, ds.set (i + vs.length) cy, by omega, by omega, by go_num, by simpa using hl1, by simpa using hl2, ?_, ?_, HL.out.set _ (by omega) (by omega), ?_, ?_⟩
            · have e : cy % 4294967296 = cy := by omega
              show OwnN _ _ _
              first | exact OwnN.set HO.out _ _ | (rw [e]; exact OwnN.set HO.out _ _)
            · exact HB.out.setCell (Nat.le_refl _) _
            · show _ = _
              have h1 := hst.out cy
              rw [hz.out] at h1
              have h2 := HE.out
              rw [V_take_all (Nat.le_refl _)] at h2
              rw [h1, HV.out, Int.add_mul, ← h2, Int.sub_zero]
            · intro j hj hle2
              rw [List.getElem_set_ne (show i + vs.length ≠ j by omega)]
              exact HZ.out j (by simpa using hj) (by omega)
    · have hltz : ¬ (i : Int) < (us.length : Int) := by omega
      have hkl : Hid (i = us.length) := by show _ = _; omega
      have HE2 : Hid (V cs = V us * V vs) := by
        show _ = _
        rw [HE.out, hkl.out, V_take_all (Nat.le_refl _)]
      have hN := Lib.hid (r1_Norm (some ⟨w.heap.size, 0, none⟩) (us.length + vs.length) cs wr ⟨OwnN.row HO.out, HL.out, hl1⟩ (by omega))
      rw [HE2.out, show cs.length = us.length + vs.length by omega] at hN
      clear HE HZ
      go_wp2_with fail
      refine hN.out.mono ?_
      rintro e w' ⟨A', c', rfl, g1, g2, g3⟩
      have G2 := Lib.hid g2
      have G3 := Lib.hid (HBc.out.trans ((HB.out.trans (g3.mono HB.out.size)).mono HBc.out.size))
      clear g2 g3
      go_wp2
      go_ret
      exact ⟨A', c', rfl, g1, G2.out, G3.out⟩


theorem bits_or_comm (k : IntKind) (a b : Int) : bits .or k a b = bits .or k b a := by
  unfold bits
  show k.wrap ((BitVec.ofInt k.bits a ||| BitVec.ofInt k.bits b).toNat : Int) = k.wrap ((BitVec.ofInt k.bits b ||| BitVec.ofInt k.bits a).toNat : Int)
  rw [BitVec.or_comm]

set_option maxHeartbeats 2000000 in
theorem r1_twiceF (A : Option Addr) (c : Nat) (xs : List Int) (b : Bool) (w : World) (h : In w A c xs) (hm : xs.length ≤ 1099511627776) :
    Calls Try.prog 125 #[.slice A xs.length c, .bool b] w fun e w' => ToldF w (2 * V xs + (if b then 1 else 0)) e w' := by
  have hc := h.cap
  have H1 := Lib.hid h.row
  have L1 := Lib.hid h.lim
  clear h
  generalize hS : 2 * V xs + (if b then 1 else 0) = S
  have HS := Lib.hid hS
  clear hS
  have hmk := fun W => run_makeL (P := Try.prog) 27 96 Try.underlying27 info96 ((xs.length : Int) + 1) (xs.length + 1) (by omega) (by omega) W
  go_enter Try.func125, Try.ntmps125
  go_upto_if 12 with (fail)
  go_cut [6] (fun s6 wc => s6 = .int .u32 (if b then 1 else 0) ∧ Hid (OwnN wc w.heap.size (List.replicate (xs.length + 1) 0)) ∧ Hid (Below w.heap.size w wc))
  case first =>
    cases b with
    | true =>
      go_wp2
      go_meet
      case rel => exact ⟨rfl, own_zeros _ _ _, (Below.refl _ _).alloc (Nat.le_refl _) _⟩
    | false =>
      go_wp2
      go_meet
      case rel => exact ⟨rfl, own_zeros _ _ _, (Below.refl _ _).alloc (Nat.le_refl _) _⟩
  case rest =>
    obtain ⟨rfl, HO0, HB0⟩ := hcut
    clear hmk
    obtain ⟨f, hf⟩ : ∃ f : Int, f = if b then 1 else 0 := ⟨_, rfl⟩
    have hfb : 0 ≤ f ∧ f ≤ 1 := by rw [hf]; split <;> omega
    rw [← hf] at HS ⊢
    clear hf
    go_wp2
    go_loopg [6, 7] xs.length (fun gg s6 s7 wr => ∃ (i : Nat) (cy : Int) (cs : List Int), i ≤ xs.length ∧ xs.length - i ≤ gg ∧ s7 = .int .i64 i ∧ s6 = .int .u32 cy ∧ 0 ≤ cy ∧ cy ≤ 1 ∧ cs.length ≤ xs.length + 1 ∧ xs.length + 1 ≤ cs.length ∧
      Hid (OwnN wr w.heap.size cs) ∧ Hid (Below w.heap.size w wr) ∧ Hid (Lim cs) ∧ Hid (V (cs.take i) + Bp i * cy = 2 * V (xs.take i) + f))
    case atStart => exact ⟨0, f, List.replicate (xs.length + 1) 0, by omega, by omega, rfl, rfl, by omega, by omega, by simp, by simp, HO0, HB0, Lim.zeros _, by show _ = _; simp [V, Bp_zero]⟩
    case round =>
      obtain ⟨i, cy, cs, hi, hg, rfl, rfl, hcy0, hcy1, hl1, hl2, HO, HD, HL, HE⟩ := hrel
      by_cases hlt : i < xs.length
      · have hltz : (i : Int) < (xs.length : Int) := by omega
        obtain ⟨ad, rfl, hcell⟩ := Knd.at_int H1.out i hlt
        have c1 := cell_below HD.out hcell
        have b1 := L1.out.get i hlt
        have HV := Lib.hid (V_take_succ hlt)
        have c3 := OwnN.cell HO.out i (by omega)
        have c4 := Own.frozen HO.out i
        have hst := Lib.hid (fun (y : Int) => V_take_set_succ (xs := cs) (k := i) (by omega) y)
        generalize xs[i] = x at *
        generalize cs[i] = z at c3
        have ho := or_low (z := cy) (x := x) (up := 1) (by omega) hcy0 (by show cy < 2; omega) b1
        rw [bits_or_comm, Int.pow_one] at ho
        obtain ⟨y, hy⟩ : ∃ y, y = cy + x * 2 % 4294967296 := ⟨_, rfl⟩
        rw [← hy] at ho
        have h1 := ho.1
        have h2 : 0 ≤ y ∧ y < 4294967296 := ⟨by omega, ho.2⟩
        have c2 := cell_below (HD.out.setCell (p := ⟨w.heap.size, i, none⟩) (Nat.le_refl _) (.int .u32 y)) hcell
        have hnew : Hid (V ((cs.set i y).take (i + 1)) + Bp (i + 1) * (x / 2147483648) = 2 * V (xs.take (i + 1)) + f) := by
          show _ = _
          have h3 : y + 4294967296 * (x / 2147483648) = 2 * x + cy := by omega
          have h4 := HE.out
          rw [hst.out, HV.out, Bp_succ]
          generalize Bp i = p at *
          generalize V (cs.take i) = C at *
          generalize V (xs.take i) = X at *
          have h5 : p * y + 4294967296 * p * (x / 2147483648) = p * (y + 4294967296 * (x / 2147483648)) := by grind
          have h6 : p * (2 * x + cy) = 2 * (p * x) + p * cy := by grind
          rw [h3, h6] at h5
          omega
        have h7 : 0 ≤ x / 2147483648 ∧ x / 2147483648 ≤ 1 := by omega
        clear hcell hst HV HE hy ho
        go_wp2
        go_roundg (xs.length - (i + 1))
        case measure => omega
        case rel =>
          exact ⟨i + 1, x / 2147483648, cs.set i y, by omega, by omega, by go_num, rfl, h7.1, h7.2, by simpa using hl1, by simpa using hl2, OwnN.set HO.out _ _, HD.out.setCell (Nat.le_refl _) _, HL.out.set _ h2.1 h2.2, hnew⟩
      · have hltz : ¬ (i : Int) < (xs.length : Int) := by omega
        have hkl : Hid (i = xs.length) := by show _ = _; omega
        have c3 := OwnN.cell HO.out xs.length (by omega)
        have c4 := Own.frozen HO.out xs.length
        generalize cs[xs.length] = z at c3
        have HO2 := Lib.hid (OwnN.set HO.out xs.length cy)
        have HL2 := Lib.hid (HL.out.set xs.length (y := cy) (by omega) (by omega))
        have HE2 : Hid (V (cs.set xs.length cy) = S) := by
          show _ = _
          have h1 := V_take_set_succ (xs := cs) (k := xs.length) (by omega) cy
          have h2 := HE.out
          rw [hkl.out] at h2
          rw [V_take_all (by simp; omega)] at h1
          rw [h1, h2, V_take_all (Nat.le_refl _)]
          exact HS.out
        have hlen : Hid ((cs.set xs.length cy).length = xs.length + 1) := by show _ = _; simp; omega
        generalize cs.set xs.length cy = rs at HO2 HL2 HE2 hlen
        have HB2 := Lib.hid (HD.out.setCell (p := ⟨w.heap.size, xs.length, none⟩) (Nat.le_refl _) (.int .u32 cy))
        have hN := Lib.hid (r1_NormF (some ⟨w.heap.size, 0, none⟩) (xs.length + 1) rs _ ⟨OwnN.row HO2.out, HL2.out, by rw [hlen.out]; exact Nat.le_refl _⟩ (by rw [hlen.out]; omega))
        rw [HE2.out, hlen.out] at hN
        clear HE HL HO
        go_wp2_with fail
        refine hN.out.mono ?_
        rintro e w' ⟨A', c', rfl, g1, g2, g3, g4⟩
        have G4 := Lib.hid (fun ad (h9 : A' = some ad) => Nat.le_trans HB2.out.size (g4 ad h9))
        clear g4
        have G2 := Lib.hid g2
        have G3 := Lib.hid (HB2.out.trans (g3.mono HB2.out.size))
        clear g2 g3
        go_wp2
        go_ret
        exact ⟨A', c', rfl, g1, G2.out, G3.out, G4.out⟩
theorem r1_twice (A : Option Addr) (c : Nat) (xs : List Int) (b : Bool) (w : World) (h : In w A c xs) (hm : xs.length ≤ 1099511627776) :
    Calls Try.prog 125 #[.slice A xs.length c, .bool b] w fun e w' => Told w (2 * V xs + (if b then 1 else 0)) e w' := (r1_twiceF A c xs b w h hm).mono fun _ _ hh => hh.told
end Go.Proofs.Ytchdoignomidjaa.F

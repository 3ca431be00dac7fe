/- The walks of the reference's layer 1, sixth part: Div. -/
import Derived.Test.YtchdoignomidjaaRefe
set_option linter.unusedVariables false
set_option linter.unusedSimpArgs false
namespace Go.Proofs.Ytchdoignomidjaa.F
open Go.RowKit Go.Shelf Go.Proofs.YtchdoignomidjaaW.PrintLast

def ToldD (w : World) (a b : Nat) (e : Ending) (w' : World) : Prop :=
  ∃ A c B d, e = .returned (.tuple #[.slice A (dg (a / b)).length c, .slice B (dg (a % b)).length d, .int .i64 0]) ∧ In w' A c (dg (a / b)) ∧ In w' B d (dg (a % b)) ∧ Below w.heap.size w w'

def Fresh9 (g : Nat) (A : Option Addr) : Prop := ∀ ad, A = some ad → g < ad.block
theorem Rn.apart {w : World} {A : Option Addr} {xs : List Int} {g : Nat} (h : Rn w A xs) (hn : Fresh9 g A) (i : Nat) (v : Value) : Rn (w.setCell ⟨g, i, none⟩ v) A xs := by
  intro k hk
  obtain ⟨ad, vs, e, hC, hc⟩ := h k hk
  refine ⟨ad, vs, e, hC, fun j u hu => ?_⟩
  have hb : (ad.add (k * (Knd.int IntKind.u32).sz + j)).block ≠ g := by
    have h1 := hn ad e
    have h2 : (ad.add (k * (Knd.int IntKind.u32).sz + j)).block = ad.block := by unfold Addr.add; split <;> rfl
    omega
  rw [World.cell?_of_block (Below.heap_setCell w _ v _ hb)]
  exact hc j u hu
theorem In.apart {w : World} {A : Option Addr} {c : Nat} {xs : List Int} {g : Nat} (h : In w A c xs) (hn : Fresh9 g A) (i : Nat) (v : Value) : In (w.setCell ⟨g, i, none⟩ v) A c xs := ⟨h.row.apart hn i v, h.lim, h.cap⟩
def ToldNF (w : World) (n : Nat) (e : Ending) (w' : World) : Prop := ∃ A c, e = .returned (.slice A (dg n).length c) ∧ In w' A c (dg n) ∧ Below w.heap.size w w' ∧ ∀ g, g < w.heap.size → Fresh9 g A
theorem ToldF.nat {w : World} {n : Nat} {e : Ending} {w' : World} (h : ToldF w (n : Int) e w') : ToldNF w n e w' := by
  obtain ⟨A, c, h1, h2, h3, h4, h5⟩ := h
  rw [Int.toNat_natCast] at h1 h2 h3
  exact ⟨A, c, h1, In.dg h3 h2, h4, fun g hg ad h6 => Nat.lt_of_lt_of_le hg (h5 ad h6)⟩
theorem r1_NormNF (A : Option Addr) (c : Nat) (xs : List Int) (w : World) (h : In w A c xs) (hm : xs.length ≤ 2199023255552) :
    Calls Try.prog 108 #[.slice A xs.length c] w fun e w' => ToldNF w (V xs).toNat e w' := by
  refine (r1_NormF A c xs w h hm).mono fun e w' hh => ?_
  have := V_nonneg h.lim
  exact ToldF.nat (by rw [show (((V xs).toNat : Nat) : Int) = V xs by omega]; exact hh)
theorem r1_subNF (A : Option Addr) (c m : Nat) (B : Option Addr) (d n : Nat) (w : World) (h : In w A c (dg m)) (hm : (dg m).length ≤ 1099511627776) (k : In w B d (dg n)) (km : (dg n).length ≤ 1099511627776) (hle : n ≤ m) :
    Calls Try.prog 113 #[.slice A (dg m).length c, .slice B (dg n).length d] w fun e w' => ∃ A' c', e = .returned (.tuple #[.slice A' (dg (m - n)).length c', .int .i64 0]) ∧ In w' A' c' (dg (m - n)) ∧ Below w.heap.size w w' ∧ ∀ g, g < w.heap.size → Fresh9 g A' := by
  refine (r1_SubF A c (dg m) B d (dg n) w h hm k km (by rw [V_dg, V_dg]; omega)).mono fun e w' hh => ?_
  obtain ⟨A', c', h1, h2, h3, h4, h5⟩ := hh
  rw [V_dg, V_dg, show ((m : Int) - (n : Int)).toNat = m - n by omega] at h1 h2 h3
  exact ⟨A', c', h1, In.dg h3 h2, h4, fun g hg ad h6 => Nat.lt_of_lt_of_le hg (h5 ad h6)⟩
theorem r1_twiceNF (A : Option Addr) (c n : Nat) (b : Bool) (w : World) (h : In w A c (dg n)) (hm : (dg n).length ≤ 1099511627776) :
    Calls Try.prog 125 #[.slice A (dg n).length c, .bool b] w fun e w' => ToldNF w (2 * n + (if b then 1 else 0)) e w' := by
  refine (r1_twiceF A c (dg n) b w h hm).mono fun e w' hh => ToldF.nat ?_
  rw [V_dg] at hh
  rw [show ((2 * n + (if b then 1 else 0) : Nat) : Int) = 2 * (n : Int) + (if b then 1 else 0) by split <;> omega]
  exact hh
theorem r1_bitNN (A : Option Addr) (c n i : Nat) (w : World) (h : In w A c (dg n)) (hm : (dg n).length ≤ 1099511627776) (hi : i < 140737488355328) :
    Calls Try.prog 123 #[.slice A (dg n).length c, .int .i64 i] w fun e w' => e = .returned (.bool (decide (n / 2 ^ i % 2 = 1))) ∧ w' = w := by
  refine (r1_Bit A c (dg n) i w h hm hi).mono fun e w' hh => ⟨hh.1.trans (ret_bool ?_), hh.2⟩
  rw [V_dg]
  have e1 : (n : Int) / 2 ^ i % 2 = ((n / 2 ^ i % 2 : Nat) : Int) := by
    rw [Int.natCast_emod, Int.natCast_ediv, Int.natCast_pow]; rfl
  rw [e1]
  simp
  omega

theorem or_bit {z : Int} {s : Nat} (hs : s < 32) (h0 : 0 ≤ z) (h1 : z < 4294967296) (hz : z % 2 ^ (s + 1) = 0) : bits .or .u32 z (2 ^ s % 4294967296) = z + 2 ^ s ∧ z + 2 ^ s < 4294967296 := by
  obtain ⟨n, rfl⟩ := Int.eq_ofNat_of_zero_le h0
  have e1 : (4294967296 : Nat) = 2 ^ (s + 1) * 2 ^ (31 - s) := by rw [← Nat.pow_add, show s + 1 + (31 - s) = 32 by omega]
  have hz' : n % 2 ^ (s + 1) = 0 := by
    have : ((n % 2 ^ (s + 1) : Nat) : Int) = 0 := by rw [Int.natCast_emod, Int.natCast_pow]; exact hz
    omega
  have hn : n < 4294967296 := by omega
  have hp : 2 ^ s < 2 ^ (s + 1) := Nat.pow_lt_pow_right (by omega) (by omega)
  have hd := Nat.div_add_mod n (2 ^ (s + 1))
  rw [hz', Nat.add_zero] at hd
  have hq : n / 2 ^ (s + 1) < 2 ^ (31 - s) := by
    rcases Nat.lt_or_ge (n / 2 ^ (s + 1)) (2 ^ (31 - s)) with h2 | h2
    · exact h2
    · have := Nat.mul_le_mul_left (2 ^ (s + 1)) h2
      omega
  have hb : 2 ^ (s + 1) * (n / 2 ^ (s + 1) + 1) ≤ 2 ^ (s + 1) * 2 ^ (31 - s) := Nat.mul_le_mul_left _ hq
  rw [Nat.mul_add] at hb
  have hlt : n + 2 ^ s < 4294967296 := by omega
  have hc : (2 : Int) ^ s = ((2 ^ s : Nat) : Int) := by rw [Int.natCast_pow]; rfl
  rw [hc, show ((2 ^ s : Nat) : Int) % 4294967296 = ((2 ^ s : Nat) : Int) by omega]
  refine ⟨?_, by omega⟩
  rw [Go.u32_or_nat _ _ hn (by omega), nat_join (s + 1) _ _ hz' hp]
  omega
theorem low_zero {V' T D z Q : Int} {j s : Nat} (hs : s < 32) (hT : 0 ≤ T ∧ T < Bp j) (hV : V' = T + Bp j * (z + 4294967296 * D)) (hQ : V' = Q * (Bp j * 2 ^ (s + 1))) : z % 2 ^ (s + 1) = 0 := by
  have hp := Bp_pos j
  have e1 : (4294967296 : Int) = 2 ^ (s + 1) * 2 ^ (31 - s) := by rw [← Int.pow_add, show s + 1 + (31 - s) = 32 by omega]; rfl
  have h1 : T = Bp j * (Q * 2 ^ (s + 1) - (z + 4294967296 * D)) := by
    have : T = Q * (Bp j * 2 ^ (s + 1)) - Bp j * (z + 4294967296 * D) := by omega
    rw [this]; grind
  have h2 : Q * 2 ^ (s + 1) - (z + 4294967296 * D) = 0 := by
    generalize Q * 2 ^ (s + 1) - (z + 4294967296 * D) = u at h1
    rcases Int.lt_trichotomy u 0 with h3 | h3 | h3
    · have := Int.mul_le_mul_of_nonneg_left (show u ≤ -1 by omega) (Int.le_of_lt hp)
      omega
    · exact h3
    · have := Int.mul_le_mul_of_nonneg_left (show 1 ≤ u by omega) (Int.le_of_lt hp)
      omega
  have h4 : z = 2 ^ (s + 1) * (Q - 2 ^ (31 - s) * D) := by
    have : z = Q * 2 ^ (s + 1) - 4294967296 * D := by omega
    rw [this, e1]; grind
  rw [h4]; exact Int.mul_emod_right _ _

set_option maxHeartbeats 4000000 in
theorem r1_Div (A : Option Addr) (c : Nat) (xs : List Int) (B : Option Addr) (d : Nat) (ys : List Int) (w : World) (h : In w A c xs) (hm : xs.length ≤ 549755813888) (k : In w B d ys) (km : ys.length ≤ 549755813888) (hy : 0 < V ys) :
    Calls Try.prog 109 #[.slice A xs.length c, .slice B ys.length d] w fun e w' => ToldD w (V xs).toNat (V ys).toNat e w' := by
  have HN1 := Lib.hid (fun (W : World) (hb : Below w.heap.size w W) => r1_NormN A c xs W (h.below hb) (by omega))
  have HN2 := Lib.hid (r1_NormN B d ys w k (by omega))
  have l1 : (dg (V xs).toNat).length ≤ 549755813888 := Nat.le_trans (dg_len_of_V h.lim) hm
  have l2 : (dg (V ys).toNat).length ≤ 549755813888 := Nat.le_trans (dg_len_of_V k.lim) km
  have hY0 : 0 < (V ys).toNat := by omega
  clear h k hy
  generalize (V xs).toNat = X at *
  generalize (V ys).toNat = Y at *
  have hyl : 0 < (dg Y).length := by
    rcases Nat.eq_zero_or_pos (dg Y).length with h0 | h0
    · exact absurd (dg_eq_nil.1 (List.length_eq_zero_iff.1 h0)) (by omega)
    · exact h0
  have hyz : (((dg Y).length : Int) == 0) = false := by rw [beq_eq_false_iff_ne]; omega
  have hmk := fun W => run_makeL (P := Try.prog) 27 96 Try.underlying27 info96 ((dg X).length : Int) (dg X).length (by omega) (by omega) W
  go_enter Try.func109, Try.ntmps109
  go_wp2_with fail
  refine HN2.out.mono ?_
  clear HN2
  rintro e w1 ⟨B1, d1, rfl, g1, g2⟩
  have HY := Lib.hid g1
  have HB := Lib.hid g2
  clear g1 g2
  go_wp2_with fail
  refine (HN1.out w1 HB.out).mono ?_
  clear HN1
  rintro e w2 ⟨A1, c1, rfl, g1, g2⟩
  have HX := Lib.hid g1
  replace HY := Lib.hid (HY.out.below g2)
  replace HB := Lib.hid (HB.out.trans (g2.mono HB.out.size))
  clear g1 g2
  go_upto_if 27 with (fail)
  clear hmk
  go_cut [8] (fun s8 wc => ∃ hi : Nat, s8 = .int .i64 hi ∧ hi ≤ (dg X).length ∧ hi + 1 ≤ (dg Y).length ∧ Hid (wc = w2.alloc (.cells (madeCells #[.int .u32 0] (dg X).length) 96)))
  case first =>
    by_cases hlt : (dg X).length < (dg Y).length - 1
    · have hlt' : decide (((dg X).length : Int) < ((dg Y).length : Int) - 1) = true := by simp; omega
      go_wp2
      go_meet
      case rel => exact ⟨(dg X).length, rfl, by omega, by omega, rfl⟩
    · have hlt' : decide (((dg X).length : Int) < ((dg Y).length : Int) - 1) = false := by simp; omega
      go_wp2
      go_meet
      case rel => exact ⟨(dg Y).length - 1, by go_num, by omega, by omega, rfl⟩
  case rest =>
    obtain ⟨hi, rfl, hh1, hh2, HW⟩ := hcut
    have hw := HW.out
    subst hw
    clear HW
    have hal := Lib.hid ((Below.refl _ w2).alloc (Nat.le_refl _) (.cells (madeCells #[.int .u32 0] (dg X).length) 96))
    have HQ := Lib.hid (own_zeros w2 (dg X).length 96)
    have HX2 := HX
    have HY2 := HY
    replace HX := Lib.hid (HX.out.below hal.out)
    have hgs : w2.heap.size < (w2.alloc (.cells (madeCells #[.int .u32 0] (dg X).length) 96)).heap.size := by simp
    generalize w2.alloc (.cells (madeCells #[.int .u32 0] (dg X).length) 96) = w3 at *
    have q1 : IntKind.i64.wrap (((dg X).length : Int) - (hi : Int)) = (((dg X).length - hi : Nat) : Int) := by rw [i64w (by omega) (by omega)]; omega
    obtain ⟨n0, hn0⟩ : ∃ n0, n0 = (dg X).length - hi := ⟨_, rfl⟩
    rw [← hn0] at q1
    have hnl : (dg X).length - n0 = hi := by omega
    have hn0' : n0 ≤ (dg X).length := by omega
    have hcx := HX.out.cap
    have hdl : ((dg X).drop n0).length = (dg X).length - n0 := by simp
    have hdr : In w3 (A1.map (fun x => x.add n0)) (c1 - n0) ((dg X).drop n0) := ⟨Rn.drop HX.out.row n0, HX.out.lim.drop n0, by rw [hdl]; omega⟩
    have hR1 := Lib.hid (r1_NormNF (A1.map (fun x => x.add n0)) (c1 - n0) ((dg X).drop n0) w3 hdr (by rw [hdl]; omega))
    have hR2 := Lib.hid (show (dg X).length - n0 = 0 → Calls Try.prog 108 #[.slice A1 ((dg X).length - n0) 0] w3 fun e w' => ToldNF w3 (V ((dg X).drop n0)).toNat e w' from fun h0 => by
      have e0 : (dg X).drop n0 = [] := List.length_eq_zero_iff.1 (by rw [hdl]; exact h0)
      rw [h0, e0]
      exact r1_NormNF A1 0 [] w3 (In.nil _ _ _) (by simp))
    rw [hdl] at hR1
    have hr0 := Lib.hid (show V ((dg X).drop n0) = ((X / 2 ^ (32 * n0) : Nat) : Int) from by
      have h1 := V_split (dg X) n0 hn0'
      have h2 := V_take_lt (Lim_dg X) n0
      rw [V_dg] at h1
      have h3 : Bp n0 = ((2 ^ (32 * n0) : Nat) : Int) := by
        rw [Nat.pow_mul]; unfold Bp; rw [Int.natCast_pow]; rfl
      rw [h3] at h1 h2
      have h4 : (0 : Int) < ((2 ^ (32 * n0) : Nat) : Int) := by rw [← h3]; exact Bp_pos _
      rw [Int.natCast_ediv, h1, Int.add_mul_ediv_left _ _ (by omega), Int.ediv_eq_zero_of_lt h2.1 h2.2, Int.zero_add])
    rw [hr0.out, Int.toNat_natCast] at hR1 hR2
    have hrY := Lib.hid (show X / 2 ^ (32 * n0) < Y from by
      have h1 := V_lt (HX.out.lim.drop n0)
      rw [hdl, hr0.out] at h1
      have h2 : Bp ((dg X).length - n0) ≤ Bp ((dg Y).length - 1) := Bp_le (by omega)
      have h3 := dg_ge hY0
      omega)
    clear hdr hdl hr0
    go_upto_region 9 with (fail)
    go_cut [9] (fun s9 wc => ∃ (A9 : Option Addr) (c9 : Nat), s9 = .slice A9 (dg (X / 2 ^ (32 * n0))).length c9 ∧ Hid (In wc A9 c9 (dg (X / 2 ^ (32 * n0)))) ∧ Hid (Fresh9 w2.heap.size A9) ∧ Hid (OwnN wc w2.heap.size (List.replicate (dg X).length 0)) ∧ Hid (Below w2.heap.size w2 wc))
    case first =>
      have HN0 := Lib.hid hn0
      clear hn0 hyz
      rw [hnl] at hR1 hR2
      by_cases hcc : n0 < c1
      · have hcc2 : n0 ≠ c1 := by omega
        go_wp2_with fail
        refine hR1.out.mono ?_
        rintro e W1 ⟨A9, c9, rfl, g1, g2, g3⟩
        have G1 := Lib.hid g1
        have G3 := Lib.hid (g3 _ hgs)
        have G4 := Lib.hid (Own.below HQ.out g2 hgs)
        have G5 := Lib.hid (hal.out.trans (g2.mono (Nat.le_of_lt hgs)))
        clear g1 g2 g3
        go_wp2
        go_meet
        case rel => exact ⟨A9, c9, rfl, G1, G3, G4, G5⟩
      · have hcc2 : c1 = n0 := by omega
        subst hcc2
        have hi0 : hi = 0 := by omega
        subst hi0
        go_wp2_with fail
        refine (hR2.out trivial).mono ?_
        rintro e W1 ⟨A9, c9, rfl, g1, g2, g3⟩
        have G1 := Lib.hid g1
        have G3 := Lib.hid (g3 _ hgs)
        have G4 := Lib.hid (Own.below HQ.out g2 hgs)
        have G5 := Lib.hid (hal.out.trans (g2.mono (Nat.le_of_lt hgs)))
        clear g1 g2 g3
        go_wp2
        go_meet
        case rel => exact ⟨A9, c9, rfl, G1, G3, G4, G5⟩
    case rest =>
      clear hR1 hR2 HQ HX HY hal hcx hgs
      obtain ⟨A9, c9, rfl, G1, G3, G4, G5⟩ := hcut
      have HN0 := Lib.hid hn0
      clear hn0
      have hgw : w.heap.size ≤ w2.heap.size := HB.out.size
      have hcl := HX2.out.cap
      have hcl2 := HY2.out.cap
      go_wp2
      clear q1
      go_loopg [9, 10] (32 * n0) (fun gg s9 s10 wr => ∃ (k : Nat) (i : Int) (r Q : Nat) (A9 : Option Addr) (c9 : Nat) (qs : List Int), i + 1 = k ∧ k ≤ 32 * n0 ∧ k ≤ gg ∧ s10 = .int .i64 i ∧ s9 = .slice A9 (dg r).length c9 ∧ qs.length ≤ (dg X).length ∧ (dg X).length ≤ qs.length ∧ r < Y ∧
        Hid (In wr A9 c9 (dg r)) ∧ Hid (Fresh9 w2.heap.size A9) ∧ Hid (OwnN wr w2.heap.size qs) ∧ Hid (Below w2.heap.size w2 wr) ∧ Hid (Lim qs) ∧ Hid (X / 2 ^ k = Q * Y + r) ∧ Hid (V qs = ((Q * 2 ^ k : Nat) : Int)))
      case atStart =>
        exact ⟨32 * n0, 32 * (n0 : Int) - 1, X / 2 ^ (32 * n0), 0, A9, c9, List.replicate (dg X).length 0, by omega, by omega, by omega, by go_num, rfl, by simp, by simp, hrY.out, G1, G3, G4, G5, Lim.zeros _, by show _ = _; simp, by show _ = _; rw [V_zeros]; simp⟩
      case round =>
        clear G1 G3 G4 G5
        obtain ⟨k, i, r, Q, A9, c9, qs, hk, hkn, hg, rfl, rfl, hl1, hl2, hr, HR, HF, HQ, HBw, HL, HE, HV⟩ := hrel
        by_cases h0 : k = 0
        · have hi1 : i = -1 := by omega
          subst hi1
          have hN := Lib.hid (r1_NormN (some ⟨w2.heap.size, 0, none⟩) (dg X).length qs wr ⟨OwnN.row HQ.out, HL.out, hl1⟩ (by omega))
          have e1 : Hid (X / Y = Q ∧ X % Y = r) := by
            show _ ∧ _
            have h1 := HE.out
            rw [h0, Nat.pow_zero, Nat.div_one] at h1
            rw [h1, Nat.mul_comm]
            exact ⟨by rw [Nat.mul_add_div hY0, Nat.div_eq_of_lt hr]; omega, by rw [Nat.mul_add_mod, Nat.mod_eq_of_lt hr]⟩
          have e2 : (V qs).toNat = Q := by rw [HV.out, h0]; simp
          rw [e2, show qs.length = (dg X).length by omega] at hN
          go_wp2_with fail
          refine hN.out.mono ?_
          rintro e W1 ⟨A7, c7, rfl, g1, g2⟩
          have K1 := Lib.hid g1
          have K2 := Lib.hid (HR.out.below g2)
          have K3 := Lib.hid (HB.out.trans ((HBw.out.trans (g2.mono HBw.out.size)).mono hgw))
          clear g1 g2
          go_wp2
          unfold ToldD
          rw [e1.out.1, e1.out.2]
          refine bodyPost_ret (results_tmp3 rfl _ _ _) rfl ?_
          exact ⟨A7, c7, A9, c9, rfl, K1.out, K2.out, K3.out⟩
        · obtain ⟨m, rfl⟩ : ∃ m, k = m + 1 := ⟨k - 1, by omega⟩
          obtain rfl : i = (m : Int) := by omega
          have hX3 := Lib.hid (HX2.out.below HBw.out)
          have hY3 := Lib.hid (HY2.out.below HBw.out)
          have hbit := Lib.hid (r1_bitNN A1 c1 X m wr hX3.out (by omega) (by omega))
          obtain ⟨b, hb⟩ : ∃ b : Bool, b = decide (X / 2 ^ m % 2 = 1) := ⟨_, rfl⟩
          have hlr : (dg r).length ≤ 549755813888 := Nat.le_trans (dg_length_mono (by omega)) l2
          have htw := Lib.hid (r1_twiceNF A9 c9 r b wr HR.out (by omega))
          have hstep : Hid (X / 2 ^ m = 2 * (Q * Y) + (2 * r + (if b then 1 else 0))) := by
            show _ = _
            have h1 := HE.out
            rw [Nat.pow_succ, ← Nat.div_div_eq_div_mul] at h1
            have h2 : (if b then 1 else 0) = X / 2 ^ m % 2 := by
              rw [hb]
              by_cases h3 : X / 2 ^ m % 2 = 1
              · simp [h3]
              · simp [h3]; omega
            rw [h2]
            omega
          rw [← hb] at hbit
          have hr2 : 2 * r + (if b then 1 else 0) < 2 * Y := by split <;> omega
          clear hb hk
          generalize 2 * r + (if b then 1 else 0) = r2 at *
          have lr2 : (dg r2).length ≤ 1099511627776 := by
            have h1 := dg_lt Y
            have h2 := Bp_le l2
            have h3 := Bp_succ 549755813888
            have h4 := Bp_pos 549755813888
            have h5 : (dg r2).length ≤ 549755813888 + 1 := dg_length_le (by omega)
            omega
          go_wp2_with fail
          refine hbit.out.mono ?_
          rintro e w' ⟨rfl, rfl⟩
          go_wp2_with fail
          refine htw.out.mono ?_
          rintro e W1 ⟨A8, c8, rfl, g1, g2, g3⟩
          have K1 := Lib.hid g1
          have K2 := Lib.hid (g3 _ (HQ.out.lt))
          have K3 := Lib.hid (Own.below HQ.out g2 HQ.out.lt)
          have K4 := Lib.hid (HBw.out.trans (g2.mono HBw.out.size))
          have K5 := Lib.hid (hY3.out.below g2)
          clear g1 g2 g3 hbit htw HR HF HQ HBw hX3 hY3
          have hcm := Lib.hid (r1_cmpN A8 c8 r2 B1 d1 Y W1 K1.out lr2 K5.out (by omega))
          by_cases hge : Y ≤ r2
          · have hsg : 0 ≤ sgn ((r2 : Int) - Y) := by unfold sgn; repeat' split <;> omega
            generalize sgn ((r2 : Int) - Y) = sg at *
            have hsb := Lib.hid (r1_subNF A8 c8 r2 B1 d1 Y W1 K1.out lr2 K5.out (by omega) hge)
            go_wp2_with fail
            refine hcm.out.mono ?_
            rintro e w' ⟨rfl, rfl⟩
            go_wp2_with fail
            refine hsb.out.mono ?_
            rintro e W2 ⟨A7, c7, rfl, g1, g2, g3⟩
            have M1 := Lib.hid g1
            have M2 := Lib.hid (g3 _ K3.out.lt)
            have M3 := Lib.hid (Own.below K3.out g2 K3.out.lt)
            have M4 := Lib.hid (K4.out.trans (g2.mono K4.out.size))
            clear g1 g2 g3 hcm hsb K1 K2 K3 K4 K5
            have q1 : (m : Int) / 32 = ((m / 32 : Nat) : Int) := by omega
            have q2 : (m : Int) % 32 = ((m % 32 : Nat) : Int) := by omega
            have q3 : m % 32 < 32 := by omega
            have q4 : m / 32 < (dg X).length := by omega
            have q5 := Lib.hid (show 32 * (m / 32) + m % 32 = m by omega)
            generalize m / 32 = j at *
            generalize m % 32 = s at *
            have c3 := OwnN.cell M3.out j (by omega)
            have c4 := Own.frozen M3.out j
            have b3 := HL.out.get j (by omega)
            have hbj : (Bp j * 2 ^ (s + 1) : Int) = ((2 ^ (m + 1) : Nat) : Int) := by
              have h1 : Bp j = ((2 ^ (32 * j) : Nat) : Int) := by rw [Nat.pow_mul]; unfold Bp; rw [Int.natCast_pow]; rfl
              rw [h1, ← q5.out, show 32 * j + s + 1 = 32 * j + (s + 1) by omega, Nat.pow_add, Int.natCast_mul, Int.natCast_pow 2 (s + 1)]; rfl
            have hbm : (Bp j * 2 ^ s : Int) = ((2 ^ m : Nat) : Int) := by
              have h1 : Bp j = ((2 ^ (32 * j) : Nat) : Int) := by rw [Nat.pow_mul]; unfold Bp; rw [Int.natCast_pow]; rfl
              rw [h1, ← q5.out, Nat.pow_add, Int.natCast_mul, Int.natCast_pow 2 s]; rfl
            have hlow : (qs[j]'(by omega)) % 2 ^ (s + 1) = 0 := by
              have h1 := V_split qs j (by omega)
              rw [V_drop (show j < qs.length by omega)] at h1
              exact low_zero (Q := (Q : Int)) q3 (V_take_lt HL.out j) h1 (by rw [HV.out, hbj, Int.natCast_mul])
            have hst := V_set (xs := qs) (i := j) (by omega) (qs[j]'(by omega) + 2 ^ s)
            have ho := or_bit q3 b3.1 b3.2 hlow
            generalize qs[j]'(by omega) = z at *
            obtain ⟨y, hy⟩ : ∃ y, y = z + 2 ^ s := ⟨_, rfl⟩
            rw [← hy] at ho hst
            have ho1 := ho.1
            have hyb : 0 ≤ y ∧ y < 4294967296 := ⟨by have := pow2_pos s; omega, ho.2⟩
            have hV2 : Hid (V (qs.set j y) = (((2 * Q + 1) * 2 ^ m : Nat) : Int)) := by
              show _ = _
              have h1 : y - z = 2 ^ s := by omega
              rw [hst, h1, HV.out, hbm, Nat.pow_succ, ← Int.natCast_add]
              congr 1
              rw [Nat.add_mul, Nat.mul_comm (2 ^ m) 2, ← Nat.mul_assoc, Nat.mul_comm Q 2, Nat.one_mul]
            have hE2 : Hid (X / 2 ^ m = (2 * Q + 1) * Y + (r2 - Y)) := by
              show _ = _
              have h1 : (2 * Q + 1) * Y = 2 * (Q * Y) + Y := by rw [Nat.add_mul, Nat.one_mul, Nat.mul_assoc]
              rw [hstep.out, h1]; omega
            have hrl : r2 - Y < Y := by omega
            clear hst ho hy hlow hbj hbm
            generalize r2 - Y = r3 at *
            go_wp2
            go_roundg m
            case measure => omega
            case rel => exact ⟨m, (m : Int) - 1, r3, 2 * Q + 1, A7, c7, qs.set j y, by omega, by omega, by omega, by go_num, rfl, by simpa using hl1, by simpa using hl2, hrl, M1.out.apart M2.out _ _, M2, OwnN.set M3.out _ _, M4.out.setCell (Nat.le_refl _) _, HL.out.set _ hyb.1 hyb.2, hE2, hV2⟩
          · have hsg : ¬ (0 ≤ sgn ((r2 : Int) - Y)) := by unfold sgn; repeat' split <;> omega
            generalize sgn ((r2 : Int) - Y) = sg at *
            have hE2 : Hid (X / 2 ^ m = 2 * Q * Y + r2) := by show _ = _; rw [hstep.out, Nat.mul_assoc]
            have hV2 : Hid (V qs = ((2 * Q * 2 ^ m : Nat) : Int)) := by
              show _ = _; rw [HV.out, Nat.pow_succ]; congr 1; rw [Nat.mul_comm (2 ^ m), Nat.mul_comm 2 Q, Nat.mul_assoc]
            go_wp2_with fail
            refine hcm.out.mono ?_
            rintro e w' ⟨rfl, rfl⟩
            go_wp2
            go_roundg m
            case measure => omega
            case rel => exact ⟨m, (m : Int) - 1, r2, 2 * Q, A8, c8, qs, by omega, by omega, by omega, by go_num, rfl, hl1, hl2, by omega, K1, K2, K3, K4, HL, hE2, hV2⟩
end Go.Proofs.Ytchdoignomidjaa.F

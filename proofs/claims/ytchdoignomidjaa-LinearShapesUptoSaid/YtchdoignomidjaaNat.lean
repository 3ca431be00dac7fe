/- The walks of package nat (natural numbers): each tells the normal form of what it should. Conditions: the limbs are limbs, lengths below 2^40. -/
import Derived.Test.YtchdoignomidjaaProg
import Derived.Test.YtchdoignomidjaaBase
set_option linter.unusedVariables false
set_option linter.unusedSimpArgs false
namespace Go.Proofs.Ytchdoignomidjaa.F
open Go.RowKit Go.Shelf

/-- the normal form -/
def nf (xs : List Int) : List Int := dg (V xs).toNat
theorem nf_len {xs : List Int} (h : Lim xs) : (nf xs).length ≤ xs.length := dg_len_of_V h
theorem Lim_nf (xs : List Int) : Lim (nf xs) := Lim_dg _
theorem V_nf {xs : List Int} (h : Lim xs) : V (nf xs) = V xs := by
  unfold nf; rw [V_dg]; have := V_nonneg h; omega

theorem info96 : (Try.prog.info? 96).map (fun i => (i.zero, i.size, i.bytes)) = some (some (.int .u32 0), 1, 4) := by kernel_rfl

theorem nat_trim (A : Option Addr) (c : Nat) (xs : List Int) (w : World) (h : Rn w A xs) (hl : Lim xs) (hc : xs.length ≤ c) (hm : xs.length ≤ 1099511627776) :
    Calls Try.prog 117 #[.slice A xs.length c] w fun e w' => e = .returned (.slice A (nf xs).length c) ∧ Rn w' A (nf xs) ∧ Below w.heap.size w w' := by
  have HX := Lib.hid h
  have HL := Lib.hid hl
  clear h hl
  go_enter Try.func117, Try.ntmps117
  go_wp2
  go_loopg [3] xs.length (fun gg s3 wr => ∃ k : Nat, k ≤ xs.length ∧ k ≤ gg ∧ s3 = .int .i64 k ∧ Hid (Below w.heap.size w wr) ∧ Hid (∀ i (hi : i < xs.length), k ≤ i → xs[i] = 0))
  case atStart => exact ⟨xs.length, by omega, by omega, rfl, Below.refl _ w, fun i hi hk => by omega⟩
  case round =>
    obtain ⟨k, hk, hg, rfl, BW, A1⟩ := hrel
    by_cases h0 : 0 < k
    · obtain ⟨j, rfl⟩ : ∃ j, k = j + 1 := ⟨k - 1, by omega⟩
      obtain ⟨ad, rfl, hcell⟩ := Knd.at_int HX.out j (by omega)
      have hcell' := cell_below BW.out hcell
      clear hcell
      by_cases hz : xs[j] = 0
      · have HZ := Lib.hid hz
        rw [hz] at hcell'
        clear hz
        go_wp2
        go_roundg j
        case measure => omega
        case rel =>
          refine ⟨j, by omega, by omega, by go_num, by first | exact BW | exact below_drewN BW _, (show Hid _ from fun i hi hj => ?_)⟩
          by_cases e : i = j
          · subst e; exact HZ.out
          · exact A1.out i hi (by omega)
      · have HT := Lib.hid (take_dg HL.out hk A1.out (fun _ => hz))
        have hz' : (xs[j] == 0) = false := by simpa using hz
        clear hz
        generalize xs[j] = y at hcell' hz'
        go_wp2
        go_ret
        have e : (nf xs).length = j + 1 := by rw [nf, ← HT.out, List.length_take]; omega
        exact ⟨ret_slice e.symm, by rw [nf, ← HT.out]; exact (HX.out.take _).below BW.out, BW.out⟩
    · obtain rfl : k = 0 := by omega
      have HT := Lib.hid (take_dg HL.out hk A1.out (fun h => absurd h (Nat.lt_irrefl 0)))
      go_wp2
      go_ret
      have e : (nf xs).length = 0 := by rw [nf, ← HT.out]; rfl
      exact ⟨ret_slice e.symm, by rw [nf, ← HT.out]; exact (HX.out.take _).below BW.out, BW.out⟩

/-- a number in new memory -/
def Fresh (w w' : World) (v : Value) (n : Nat) : Prop := ∃ A c, v = .slice A (dg n).length c ∧ (dg n).length ≤ c ∧ Rn w' A (dg n) ∧ Below w.heap.size w w'

set_option maxHeartbeats 1000000 in
theorem nat_own (A : Option Addr) (c : Nat) (xs : List Int) (w : World) (h : Rn w A xs) (hl : Lim xs) (hc : xs.length ≤ c) (hm : xs.length ≤ 1099511627776) :
    Calls Try.prog 116 #[.slice A xs.length c] w fun e w' => ∃ A' c', e = .returned (.slice A' (nf xs).length c') ∧ (nf xs).length ≤ c' ∧ Rn w' A' (nf xs) ∧ Below w.heap.size w w' := by
  have H1 := Lib.hid (nat_trim A c xs w h hl hc hm)
  have hle := nf_len hl
  generalize hn : nf xs = ys at H1 hle
  clear hn h hl
  by_cases h0 : ys = []
  · subst h0
    go_enter Try.func116, Try.ntmps116
    go_wp2_with fail
    refine H1.out.mono ?_
    clear H1
    rintro e w1 ⟨rfl, hr, hb⟩
    have HB := Lib.hid hb
    clear hr hb
    go_wp2_with fail
    go_ret
    exact ⟨none, 0, rfl, Nat.le_refl _, Rn.nil _ _, HB.out⟩
  · have hp : 0 < ys.length := List.length_pos_iff.2 h0
    have hp' : ((ys.length : Int) == 0) = false := by simpa using h0
    have hmk := fun W => run_makeL (P := Try.prog) 27 96 Try.underlying27 info96 (ys.length : Int) ys.length rfl (by omega) W
    clear h0
    go_enter Try.func116, Try.ntmps116
    go_wp2_with fail
    refine H1.out.mono ?_
    clear H1
    rintro e w1 ⟨rfl, hr, hb⟩
    have HB := Lib.hid hb
    have HR := Lib.hid hr
    clear hr hb
    go_wp2_with (with_reducible refine wpList_copyN rfl (.tmp 12) (.tmp 13) 27 27 rfl 96 Try.underlying27 (by kernel_rfl) A ys.length ys.length c w1.heap.size rfl rfl ys (List.replicate ys.length 0) rfl ?c1 (by simp) ?c2 w.heap.size w ?c3 ?c4 ?c5)
    case c1 => exact HR.out.below ((Below.refl _ _).alloc (Nat.le_refl _) _)
    case c2 => exact own_zeros _ _ _
    case c3 => exact HB.out.alloc HB.out.size _
    case c4 => exact HB.out.size
    case c5 =>
      intro w2 ho hb2
      go_wp2_with fail
      go_ret
      exact ⟨some ⟨w1.heap.size, 0, none⟩, ys.length, rfl, Nat.le_refl _, OwnN.row ho.out, hb2.out⟩

theorem nat_Norm (A : Option Addr) (c : Nat) (xs : List Int) (w : World) (h : Rn w A xs) (hl : Lim xs) (hc : xs.length ≤ c) (hm : xs.length ≤ 1099511627776) :
    Calls Try.prog 142 #[.slice A xs.length c] w fun e w' => ∃ A' c', e = .returned (.slice A' (nf xs).length c') ∧ (nf xs).length ≤ c' ∧ Rn w' A' (nf xs) ∧ Below w.heap.size w w' := by
  have H1 := Lib.hid (nat_own A c xs w h hl hc hm)
  clear h hl
  go_enter Try.func142, Try.ntmps142
  go_wp2_with fail
  refine H1.out.mono ?_
  clear H1
  rintro e w1 ⟨A', c', rfl, h1, h2, h3⟩
  have H2 := Lib.hid h2
  have H3 := Lib.hid h3
  clear h2 h3
  go_wp2_with fail
  go_ret
  exact ⟨A', c', rfl, h1, H2.out, H3.out⟩

/-- the sign of a difference -/
def sgn (a : Int) : Int := if a < 0 then -1 else if 0 < a then 1 else 0

/-- where two numbers of the same length first part, from the top -/
theorem V_top {xs ys : List Int} (hx : Lim xs) (hy : Lim ys) (he : xs.length = ys.length) {i : Nat} (hi : i < xs.length) (hs : ∀ j (h1 : j < xs.length) (h2 : j < ys.length), i < j → xs[j] = ys[j])
    (hlt : xs[i] < ys[i]'(by omega)) : V xs < V ys := by
  have hi' : i < ys.length := by omega
  have e : xs.drop (i + 1) = ys.drop (i + 1) := by
    refine List.ext_getElem (by simp [he]) fun j h1 h2 => ?_
    rw [List.getElem_drop, List.getElem_drop]
    exact hs _ _ _ (by omega)
  rw [V_split xs i (by omega), V_split ys i (by omega), V_drop hi, V_drop hi', e]
  have h1 := V_lt (hx.take i)
  have h2 := V_nonneg (hy.take i)
  rw [List.length_take, Nat.min_eq_left (by omega)] at h1
  have h3 : Bp i * (xs[i] + 1 + 4294967296 * V (ys.drop (i + 1))) ≤ Bp i * (ys[i] + 4294967296 * V (ys.drop (i + 1))) := Int.mul_le_mul_of_nonneg_left (by omega) (Int.le_of_lt (Bp_pos i))
  have h4 : Bp i * (xs[i] + 1 + 4294967296 * V (ys.drop (i + 1))) = Bp i * (xs[i] + 4294967296 * V (ys.drop (i + 1))) + Bp i := by grind
  omega

theorem V_longer {xs ys : List Int} (hx : Lim xs) (hy : Lim ys) (hn : Nrm ys) (h : xs.length < ys.length) : V xs < V ys := by
  have h1 := V_lt hx
  have hne : ys ≠ [] := by intro e; rw [e] at h; simp at h
  have h2 := V_pos_of_ne hy (i := ys.length - 1) (by omega) (by have := hn hne; rwa [List.getLast_eq_getElem] at this)
  have h3 := Bp_le (show xs.length ≤ ys.length - 1 by omega)
  omega

set_option maxHeartbeats 1000000 in
theorem nat_Cmp (A : Option Addr) (c : Nat) (xs : List Int) (B : Option Addr) (d : Nat) (ys : List Int) (w : World) (h : Rn w A xs) (hl : Lim xs) (hc : xs.length ≤ c) (hm : xs.length ≤ 1099511627776)
    (k : Rn w B ys) (kl : Lim ys) (kc : ys.length ≤ d) (km : ys.length ≤ 1099511627776) :
    Calls Try.prog 118 #[.slice A xs.length c, .slice B ys.length d] w fun e w' => e = .returned (.int .i64 (sgn (V xs - V ys))) ∧ Below w.heap.size w w' := by
  have H1 := Lib.hid (nat_trim A c xs w h hl hc hm)
  have H2 := Lib.hid (fun (W : World) (hb : Below w.heap.size w W) => nat_trim B d ys W (k.below hb) kl kc km)
  have hle := nf_len hl
  have kle := nf_len kl
  rw [← V_nf hl, ← V_nf kl]
  have L1 := Lib.hid (Lim_nf xs)
  have L2 := Lib.hid (Lim_nf ys)
  have N1 := Lib.hid (show Nrm (nf xs) from Nrm_dg _)
  have N2 := Lib.hid (show Nrm (nf ys) from Nrm_dg _)
  generalize nf xs = us at *
  generalize nf ys = vs at *
  clear h hl k kl
  rcases Nat.lt_trichotomy us.length vs.length with hlt | heq | hgt
  · have hr := Lib.hid (V_longer L1.out L2.out N2.out hlt)
    have t1 : ((us.length : Int) != (vs.length : Int)) = true := by rw [bne_iff_ne]; omega
    have t2 : (us.length != vs.length) = true := by rw [bne_iff_ne]; omega
    go_enter Try.func118, Try.ntmps118
    go_wp2_with fail
    refine H1.out.mono ?_
    clear H1
    rintro e w1 ⟨rfl, h1, hb1⟩
    have HB1 := Lib.hid hb1
    clear h1 hb1
    go_wp2_with fail
    refine (H2.out _ HB1.out).mono ?_
    clear H2
    rintro e w2 ⟨rfl, h2, hb2⟩
    have HB2 := Lib.hid (HB1.out.trans (hb2.mono HB1.out.size))
    clear h2 hb2 HB1
    go_wp2_with fail
    go_ret
    exact ⟨ret_int (by have := hr.out; unfold sgn; rw [if_pos (by omega)]), HB2.out⟩
  · have t1 : ((us.length : Int) != (vs.length : Int)) = false := by rw [bne_eq_false_iff_eq]; omega
    have t2 : (us.length != vs.length) = false := by rw [bne_eq_false_iff_eq]; omega
    have Heq := Lib.hid heq
    clear heq
    go_enter Try.func118, Try.ntmps118
    go_wp2_with fail
    refine H1.out.mono ?_
    clear H1
    rintro e w1 ⟨rfl, h1, hb1⟩
    have HB1 := Lib.hid hb1
    have R1 := Lib.hid h1
    clear h1 hb1
    go_wp2_with fail
    refine (H2.out _ HB1.out).mono ?_
    clear H2
    rintro e w2 ⟨rfl, h2, hb2⟩
    have HB2 := Lib.hid (HB1.out.trans (hb2.mono HB1.out.size))
    have R1' := Lib.hid (R1.out.below hb2)
    have R2 := Lib.hid h2
    clear h2 hb2 HB1 R1
    go_wp2_with fail
    go_loopg [5] us.length (fun gg s5 wr => ∃ z : Int, -1 ≤ z ∧ z < (us.length : Int) ∧ z + 1 ≤ gg ∧ s5 = .int .i64 z ∧ Hid (Below w2.heap.size w2 wr) ∧ Hid (∀ j (h1 : j < us.length) (h2 : j < vs.length), z < j → us[j] = vs[j]))
    case atStart => exact ⟨(us.length : Int) - 1, by omega, by omega, by omega, rfl, Below.refl _ w2, fun j h1 h2 h3 => by omega⟩
    case round =>
      obtain ⟨z, hz1, hz2, hg, rfl, BW, A1⟩ := hrel
      by_cases h0 : 0 ≤ z
      · obtain ⟨j, rfl⟩ := Int.eq_ofNat_of_zero_le h0
        have hj1 : j < us.length := by omega
        have hj2 : j < vs.length := by have := Heq.out; omega
        have hz3 : (j : Int) < (vs.length : Int) := by omega
        obtain ⟨ad, rfl, hcell⟩ := Knd.at_int R1'.out j hj1
        obtain ⟨bd, rfl, hcell2⟩ := Knd.at_int R2.out j hj2
        have c1 := cell_below BW.out hcell
        have c2 := cell_below BW.out hcell2
        clear hcell hcell2
        have b1 := L1.out.get j hj1
        have b2 := L2.out.get j hj2
        have q1 : Hid (us[j] < vs[j] → V us < V vs) := fun h => V_top L1.out L2.out Heq.out hj1 (fun i h1 h2 h3 => A1.out i h1 h2 (by omega)) h
        have q2 : Hid (vs[j] < us[j] → V vs < V us) := fun h => V_top L2.out L1.out Heq.out.symm hj2 (fun i h1 h2 h3 => (A1.out i h2 h1 (by omega)).symm) h
        have A2 : Hid (us[j] = vs[j] → ∀ i (h1 : i < us.length) (h2 : i < vs.length), (j : Int) - 1 < i → us[i] = vs[i]) := fun he i h1 h2 h3 => by
          by_cases e : i = j
          · subst e; exact he
          · exact A1.out i h1 h2 (by omega)
        clear A1
        generalize us[j] = x at *
        generalize vs[j] = y at *
        rcases Int.lt_trichotomy x y with hxy | hxy | hxy
        · have e1 : (x != y) = true := by rw [bne_iff_ne]; omega
          have e2 : decide (x < y) = true := by simpa using hxy
          have hr := Lib.hid (q1.out hxy)
          clear hxy
          go_wp2
          go_quiet (fail)
          go_wp2
          go_quiet (fail)
          go_wp2
          go_ret
          exact ⟨ret_int (by have := hr.out; unfold sgn; rw [if_pos (by omega)]), below_drewN (below_drewN (HB2.out.trans (BW.out.mono HB2.out.size)) _) _⟩
        · subst hxy
          have e1 : (x != x) = false := by simp
          have A3 := Lib.hid (A2.out rfl)
          clear A2
          go_wp2
          go_quiet (fail)
          go_wp2
          go_roundg j
          case measure => omega
          case rel => exact ⟨(j : Int) - 1, by omega, by omega, by omega, rfl, below_drewN BW.out _, A3.out⟩
        · have e1 : (x != y) = true := by rw [bne_iff_ne]; omega
          have e2 : decide (x < y) = false := by simp; omega
          have hr := Lib.hid (q2.out hxy)
          clear hxy
          go_wp2
          go_quiet (fail)
          go_wp2
          go_quiet (fail)
          go_wp2
          go_ret
          exact ⟨ret_int (by have := hr.out; unfold sgn; rw [if_neg (by omega), if_pos (by omega)]), below_drewN (below_drewN (HB2.out.trans (BW.out.mono HB2.out.size)) _) _⟩
      · have hr : Hid (us = vs) := List.ext_getElem Heq.out fun i h1 h2 => A1.out i h1 h2 (by omega)
        clear A1
        go_wp2
        go_ret
        exact ⟨ret_int (by rw [hr.out]; simp [sgn]), HB2.out.trans (BW.out.mono HB2.out.size)⟩
  · have hr := Lib.hid (V_longer L2.out L1.out N1.out hgt)
    have t1 : ((us.length : Int) != (vs.length : Int)) = true := by rw [bne_iff_ne]; omega
    have t2 : (us.length != vs.length) = true := by rw [bne_iff_ne]; omega
    go_enter Try.func118, Try.ntmps118
    go_wp2_with fail
    refine H1.out.mono ?_
    clear H1
    rintro e w1 ⟨rfl, h1, hb1⟩
    have HB1 := Lib.hid hb1
    have R1 := Lib.hid h1
    clear h1 hb1
    go_wp2_with fail
    refine (H2.out _ HB1.out).mono ?_
    clear H2
    rintro e w2 ⟨rfl, h2, hb2⟩
    have HB2 := Lib.hid (HB1.out.trans (hb2.mono HB1.out.size))
    have R1' := Lib.hid (R1.out.below hb2)
    have R2 := Lib.hid h2
    clear h2 hb2 HB1 R1
    go_wp2_with fail
    go_ret
    exact ⟨ret_int (by have := hr.out; unfold sgn; rw [if_neg (by omega), if_pos (by omega)]), HB2.out⟩
end Go.Proofs.Ytchdoignomidjaa.F

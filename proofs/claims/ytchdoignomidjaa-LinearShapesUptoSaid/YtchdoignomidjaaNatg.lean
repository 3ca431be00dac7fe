/- The walks of package nat, seventh part: Of, Div, Gcd, Bits. Conditions: the limbs are limbs, lengths below 2^39; the divisor is not 0. -/
import Derived.Test.YtchdoignomidjaaNatf
set_option linter.unusedVariables false
set_option linter.unusedSimpArgs false
namespace Go.Proofs.Ytchdoignomidjaa.F
open Go.RowKit Go.Shelf

/-- what Div tells where the divisor is not 0 -/
def ToldDiv (w : World) (a b : Int) (e : Ending) (w' : World) : Prop :=
  ∃ A c B d, e = .returned (.tuple #[.slice A (dg (a / b).toNat).length c, .slice B (dg (a % b).toNat).length d, .int .i64 0]) ∧ (dg (a / b).toNat).length ≤ c ∧ (dg (a % b).toNat).length ≤ d ∧
    Rn w' A (dg (a / b).toNat) ∧ Rn w' B (dg (a % b).toNat) ∧ Below w.heap.size w w'

theorem Rn.one {w : World} {g : Nat} {x : Int} (h : w.cell? ⟨g, 0, none⟩ = some (.int .u32 x)) : Rn w (some ⟨g, 0, none⟩) [x] := by
  intro i hi
  have : i = 0 := by simpa using hi
  subst this
  refine ⟨⟨g, 0, none⟩, [.int .u32 x], rfl, rfl, fun j u hu => ?_⟩
  have hj : j = 0 := by
    cases j with
    | zero => rfl
    | succ j => simp at hu
  subst hj
  simp at hu
  subst hu
  exact h

set_option maxHeartbeats 4000000 in
theorem nat_Div (A : Option Addr) (c : Nat) (xs : List Int) (B : Option Addr) (d : Nat) (ys : List Int) (w : World) (h : Rn w A xs) (hl : Lim xs) (hc : xs.length ≤ c) (hm : xs.length ≤ 549755813888)
    (k : Rn w B ys) (kl : Lim ys) (kc : ys.length ≤ d) (km : ys.length ≤ 549755813888) (hy : 0 < V ys) :
    Calls Try.prog 83 #[.slice A xs.length c, .slice B ys.length d] w fun e w' => ToldDiv w (V xs) (V ys) e w' := by
  have HT1 := Lib.hid (nat_trim A c xs w h hl hc (by omega))
  have HT2 := Lib.hid (fun (W : World) (hb : Below w.heap.size w W) => nat_trim B d ys W (k.below hb) kl kc (by omega))
  have l1 := nf_len hl
  have l2 := nf_len kl
  have L1 := Lib.hid (Lim_nf xs)
  have L2 := Lib.hid (Lim_nf ys)
  have N1 := Lib.hid (show Nrm (nf xs) from Nrm_dg _)
  have N2 := Lib.hid (show Nrm (nf ys) from Nrm_dg _)
  have hy' := hy
  rw [← V_nf hl, ← V_nf kl]
  rw [← V_nf kl] at hy'
  have hne : 0 < (nf ys).length := by
    rcases Nat.eq_zero_or_pos (nf ys).length with h0 | h0
    · rw [List.length_eq_zero_iff.1 h0] at hy'; simp [V] at hy'
    · exact h0
  generalize nf xs = us at *
  generalize nf ys = vs at *
  have hlu : us.length ≤ 549755813888 := by omega
  have hlv : vs.length ≤ 549755813888 := by omega
  have hlc : us.length ≤ c := by omega
  have hld : vs.length ≤ d := by omega
  have hz : ((vs.length : Int) == 0) = false := by rw [beq_eq_false_iff_ne]; omega
  have HY := Lib.hid hy'
  clear h hl k kl hm km hy hy' l1 l2 hc kc
  go_enter Try.func83, Try.ntmps83
  go_wp2_with fail
  refine HT1.out.mono ?_
  clear HT1
  rintro e w1 ⟨rfl, h1, hb1⟩
  have HB1 := Lib.hid hb1
  have H1 := Lib.hid h1
  clear h1 hb1
  go_wp2_with fail
  refine (HT2.out _ HB1.out).mono ?_
  clear HT2
  rintro e w2 ⟨rfl, k1, hb2⟩
  have K1 := Lib.hid k1
  have HB2 := Lib.hid (HB1.out.trans (hb2.mono HB1.out.size))
  have H1' := Lib.hid (H1.out.below hb2)
  clear k1 hb2 HB1 H1
  have HC := Lib.hid (nat_Cmp A c us B d vs w2 H1'.out L1.out hlc (by omega) K1.out L2.out hld (by omega))
  by_cases hlt : V us < V vs
  · have hs : sgn (V us - V vs) = -1 := by unfold sgn; rw [if_pos (by omega)]
    rw [hs] at HC
    clear hs
    have HLT := Lib.hid hlt
    clear hlt
    go_wp2_with fail
    refine HC.out.mono ?_
    clear HC
    rintro e w3 ⟨rfl, hb3⟩
    have HB3 := Lib.hid (HB2.out.trans (hb3.mono HB2.out.size))
    have HO := Lib.hid (nat_own' A us.length c us w3 rfl (H1'.out.below hb3) L1.out hlc (by omega))
    clear hb3
    go_wp2_with fail
    refine HO.out.mono ?_
    clear HO
    rintro e w4 ⟨A', c', rfl, g1, g2, g3⟩
    have hq : V us / V vs = 0 := Int.ediv_eq_zero_of_lt (V_nonneg L1.out) HLT.out
    have hr : V us % V vs = V us := Int.emod_eq_of_lt (V_nonneg L1.out) HLT.out
    have G2 := Lib.hid g2
    have HB4 := Lib.hid (HB3.out.trans (g3.mono HB3.out.size))
    have HQ := Lib.hid hq
    have HR := Lib.hid hr
    clear hq hr g2 g3
    go_wp2
    refine bodyPost_ret (results_tmp3 rfl _ _ _) rfl ?_
    unfold ToldDiv
    rw [HQ.out, HR.out]
    exact ⟨none, 0, A', c', by simp [dg_zero], by simp [dg_zero], g1, by simp only [Int.toNat_zero, dg_zero]; exact Rn.nil _ _, G2.out, HB4.out⟩
  · have hs : 0 ≤ sgn (V us - V vs) := by unfold sgn; rw [if_neg (by omega)]; split <;> omega
    generalize sgn (V us - V vs) = sg at *
    have HLT := Lib.hid hlt
    clear hlt
    by_cases h1 : vs.length = 1
    · obtain ⟨b, rfl⟩ : ∃ b, vs = [b] := List.length_eq_one_iff.1 h1
      have hb := (L2.out.head)
      obtain ⟨hb0, hb1⟩ := hb
      have HVb : Hid (V [b] = b) := by show _ = _; simp [V]
      have hb2 : 0 < b := by have := HY.out; rw [HVb.out] at this; exact this
      obtain ⟨bd, rfl, hcell⟩ := Knd.at_int K1.out 0 (by simp)
      have hcell' : w2.cell? bd = some (.int .u32 b) := by simpa [Addr.add] using hcell
      clear hcell h1 hb0
      go_wp2_with fail
      refine HC.out.mono ?_
      clear HC
      rintro e w3 ⟨rfl, hb3⟩
      have HB3 := Lib.hid (HB2.out.trans (hb3.mono HB2.out.size))
      have hcell3 := cell_below hb3 hcell'
      have HS := Lib.hid (nat_short A c us b w3 (H1'.out.below hb3) L1.out hlc (by omega) hb2 hb1)
      clear hb3 hcell'
      go_wp2_with fail
      refine HS.out.mono ?_
      clear HS hcell3
      rintro e w4 ⟨g, qs, r, rfl, hq1, hq2, hq3, hq4, hq5, hq6, hq7, hb4⟩
      have HB4 := Lib.hid (HB3.out.trans (hb4.mono HB3.out.size))
      have hdv := divs (a := V us) (b := b) (q := V qs) (by omega) (by omega)
      have HD1 := Lib.hid hdv.1
      have HD2 : Hid (V us % b = r) := by show _ = _; rw [hdv.2]; omega
      have HO := Lib.hid (nat_own' (some ⟨g, 0, none⟩) qs.length qs.length qs w4 rfl (OwnN.row hq2) hq4 (Nat.le_refl _) (by omega))
      clear hdv hq1 hq2 hq3 hq4 hq5 hb4
      rw [← HD1.out] at HO
      go_wp2_with fail
      refine HO.out.mono ?_
      clear HO
      rintro e w5 ⟨A5, c5, rfl, g1, g2, g3⟩
      have HB5 := Lib.hid (HB4.out.trans (g3.mono HB4.out.size))
      have G2 := Lib.hid g2
      clear g2 g3
      go_wp2_with fail
      have HO2 := Lib.hid (nat_own' (some ⟨w5.heap.size, 0, none⟩) 1 1 [r] (w5.alloc (.cells #[.int .u32 r] 96)) rfl (Rn.one (by simp [go_sem])) (Lim.cons hq6 (by omega) Lim.nil) (Nat.le_refl _) (by omega))
      refine HO2.out.mono ?_
      clear HO2
      rintro e w6 ⟨A6, c6, rfl, g4, g5, g6⟩
      have hVr : V [r] = r := by simp [V]
      rw [hVr, ← HD2.out] at g4 g5
      rw [hVr, ← HD2.out]
      have hab : Below w5.heap.size w5 w6 := ((Below.refl _ _).alloc (Nat.le_refl _) _).trans (g6.mono (by simp))
      have G5 := Lib.hid g5
      have G2' := Lib.hid (G2.out.below hab)
      have HB6 := Lib.hid (HB5.out.trans (hab.mono HB5.out.size))
      clear g5 g6 hab hVr
      go_wp2
      refine bodyPost_ret (results_tmp3 rfl _ _ _) rfl ?_
      unfold ToldDiv
      rw [HVb.out]
      exact ⟨A5, c5, A6, c6, rfl, g1, g4, G2'.out, G5.out, HB6.out⟩
    · obtain ⟨m, hm⟩ : ∃ m, vs.length = m + 2 := ⟨vs.length - 2, by omega⟩
      have hge : m + 2 ≤ us.length := by
        apply Nat.le_of_not_lt
        intro hh
        exact HLT.out (V_longer L1.out L2.out N2.out (by omega))
      have htop : 0 < vs[m + 1]'(by omega) := by
        have h2 := N2.out (by intro e; rw [e] at hm; simp at hm)
        rw [List.getLast_eq_getElem] at h2
        have h3 := (L2.out.get (m + 1) (by omega)).1
        have h4 : vs[vs.length - 1]'(by omega) = vs[m + 1]'(by omega) := by congr 1; omega
        rw [h4] at h2
        omega
      have HL := Lib.hid (fun w3 (hb3 : Below w2.heap.size w2 w3) => nat_long A c us B d vs m w3 (H1'.out.below hb3) L1.out hlc hlu (K1.out.below hb3) L2.out hld hm htop hge)
      have e1 : ((vs.length : Int) == 1) = false := by rw [beq_eq_false_iff_ne]; omega
      rw [← hm] at HL
      clear htop hm hge h1
      go_wp2_with fail
      refine HC.out.mono ?_
      clear HC
      rintro e w3 ⟨rfl, hb3⟩
      have HB3 := Lib.hid (HB2.out.trans (hb3.mono HB2.out.size))
      have HL3 := Lib.hid (HL.out w3 hb3)
      clear hb3 HL
      go_wp2_with fail
      refine HL3.out.mono ?_
      clear HL3
      rintro e w4 ⟨A4, c4, B4, d4, rfl, g1, g2, g3, g4, g5⟩
      have G3 := Lib.hid g3
      have G4 := Lib.hid g4
      have HB4 := Lib.hid (HB3.out.trans (g5.mono HB3.out.size))
      clear g3 g4 g5
      go_wp2
      refine bodyPost_ret (results_tmp3 rfl _ _ _) rfl ?_
      unfold ToldDiv
      exact ⟨A4, c4, B4, d4, rfl, g1, g2, G3.out, G4.out, HB4.out⟩
end Go.Proofs.Ytchdoignomidjaa.F

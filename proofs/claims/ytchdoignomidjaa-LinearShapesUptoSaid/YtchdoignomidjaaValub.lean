/- The walks of the reference's layer 6: zero, Value. -/
import Derived.Test.YtchdoignomidjaaValue
set_option linter.unusedVariables false
set_option linter.unusedSimpArgs false
namespace Go.Proofs.Ytchdoignomidjaa.F
open Go.RowKit Go.Shelf Go.Proofs.YtchdoignomidjaaW.PrintLast

set_option maxHeartbeats 1000000 in
theorem r6_zero (w : World) : Calls Try.prog 63 #[] w fun e w' => ToldQ w 0 e w' := by
  have hW := Lib.hid (fun (W : World) => r3_Whole 0 W (by omega) (by omega))
  rw [show ((0 : Int) : Rat) = 0 from rfl] at hW
  obtain ⟨q, hq⟩ : ∃ q : Rat, q = 0 := ⟨_, rfl⟩
  rw [← hq] at hW ⊢
  clear hq
  have HF := Lib.hid ((Fr.refl w).box [.bool false, .slice none 0 0, .slice none 0 0] 31)
  go_enter Try.func63, Try.ntmps63
  go_wp2_with fail
  refine (hW.out _).mono ?_
  rintro e W1 ⟨A2, c2, B2, d2, rfl, g1, g2, g3⟩
  replace HF := Lib.hid (HF.out.below g3)
  have Q1 := Lib.hid g1
  have Q2 := Lib.hid g2
  clear g1 g2 g3 hW
  have hf0 := HF.out.frozenN 0 rfl 0
  have hf1 := HF.out.frozenN 0 rfl 1
  have hf2 := HF.out.frozenN 0 rfl 2
  have hd0 := HF.out.cellN 0 rfl 0 rfl
  have hd1 := HF.out.cellN 0 rfl 1 rfl
  have hd2 := HF.out.cellN 0 rfl 2 rfl
  have HE := Lib.hid (end_rat HF.out (by simp) (by simp) (by omega) Q1.out Q2.out rfl)
  generalize decide (q.num < 0) = b at HE ⊢
  go_wp2
  obtain ⟨f1, f2⟩ := HE.out
  exact post_own f2 rfl rfl rfl Try.underlying31 rfl (by kernel_rfl) f1

set_option maxHeartbeats 1000000 in
set_option maxRecDepth 100000 in
theorem r6_Value (A : Option Addr) (c : Nat) (f : List (Int × RatD)) (B : Option Addr) (d : Nat) (vs : List RatD) (w : World) (M : Nat) (h : kMono.Row w A f) (hc : f.length ≤ c) (k : kRat.Row w B vs) (kc : vs.length ≤ d)
    (hf : ∀ m ∈ f, Good M m.2) (hv : ∀ x ∈ vs, Good M x) (hp : ∀ m ∈ f, Sz M (tm vs m)) (hs : ∀ i, i ≤ f.length → Sz M (valQ (f.take i) vs)) (hM : M ≤ 137438953472) (hl : f.length ≤ 1099511627776) (kl : vs.length ≤ 1099511627776) :
    Calls Try.prog 18 #[.slice A f.length c, .slice B vs.length d] w fun e w' => ToldQ w (valQ f vs) e w' := by
  have H1 := Lib.hid h
  have K1 := Lib.hid k
  have HF1 := Lib.hid hf
  have HV1 := Lib.hid hv
  have HP1 := Lib.hid hp
  have HS1 := Lib.hid hs
  have hZ := Lib.hid (fun (W : World) => r6_zero W)
  obtain ⟨q0, hq0⟩ : ∃ q : Rat, q = 0 := ⟨_, rfl⟩
  rw [← hq0] at hZ
  have hzl : (dg q0.num.natAbs).length ≤ M ∧ (dg q0.den).length ≤ M := (hq0 ▸ hs 0 (Nat.zero_le _) : Sz M q0).len
  have HZ := Lib.hid (show q0 = valQ (f.take 0) vs from hq0)
  have HF := Lib.hid ((Fr.refl w).box [.bool false, .slice none 0 0, .slice none 0 0] 31)
  clear h k hf hv hp hs hq0
  go_enter Try.func18, Try.ntmps18
  go_wp2_with fail
  refine (hZ.out _).mono ?_
  rintro e W1 ⟨A0, c0, B0, d0, rfl, g1, g2, g3⟩
  replace HF := Lib.hid (HF.out.below g3)
  have hgw : w.heap.size < W1.heap.size := HF.out.ltN 0 rfl
  replace HF := Lib.hid (HF.out.box [.bool (decide (q0.num < 0)), .slice A0 (dg q0.num.natAbs).length c0, .slice B0 (dg q0.den).length d0] 31)
  have Q0 := Lib.hid (InQ.mk g1 g2)
  have hal := Lib.hid ((Below.refl _ W1).alloc (Nat.le_refl _) (.cells #[.bool (decide (q0.num < 0)), .slice A0 (dg q0.num.natAbs).length c0, .slice B0 (dg q0.den).length d0] 31))
  replace Q0 := Lib.hid (Q0.out.below hal.out)
  clear g1 g2 g3 hZ hal
  go_wp2
  go_loopg [6] f.length (fun gg s6 wr => ∃ (i : Nat) (q : Rat) (A1 : Option Addr) (c1 : Nat) (B1 : Option Addr) (d1 : Nat), i + gg = f.length ∧ s6 = .int .i64 i ∧ Hid (Fr w wr [(W1.heap.size, [.bool (decide (q.num < 0)), .slice A1 (dg q.num.natAbs).length c1, .slice B1 (dg q.den).length d1]), (w.heap.size, [.bool false, .slice none 0 0, .slice none 0 0])]) ∧ Hid (InQ wr A1 c1 B1 d1 q) ∧ (dg q.num.natAbs).length ≤ M ∧ (dg q.den).length ≤ M ∧ Hid (q = valQ (f.take i) vs))
  case atStart => exact ⟨0, q0, A0, c0, B0, d0, by omega, rfl, HF, Q0, hzl.1, hzl.2, HZ⟩
  case round =>
    clear HF Q0 HZ hzl
    obtain ⟨i, q1, A1, c1, B1, d1, hg, rfl, HF, HX, lx, ly, HE⟩ := hrel
    by_cases hlt : i < f.length
    · have hltz : (i : Int) < (f.length : Int) := by omega
      obtain ⟨ad, BB, cc, DD, dd, rfl, j1, j2, j3, j4, hq⟩ := row_mono H1.out i hlt
      have gm := HF1.out f[i] (List.getElem_mem hlt)
      have pm := Lib.hid (HP1.out f[i] (List.getElem_mem hlt))
      have HE2 := Lib.hid (valQ_succ f vs i hlt)
      generalize f[i] = m at *
      obtain ⟨v, ⟨sb, us⟩, es⟩ := m
      have gn := gm.mn
      have gd := gm.md
      have hj := cell_below HF.out.bel j1
      have HQ1 := Lib.hid (hq.num gm)
      have HQ2 := Lib.hid (hq.den gm)
      clear hq gm
      by_cases hin : 0 ≤ v ∧ v < (vs.length : Int)
      · obtain ⟨k, rfl⟩ : ∃ k : Nat, v = k := ⟨v.toNat, by omega⟩
        have hk : k < vs.length := by omega
        have hkz := hin.2
        have hk0 := hin.1
        have e0 : Hid (tm vs ((k : Int), (sb, us), es) = rq ((sb, us), es) * rq vs[k]) := by
          show _ = _
          unfold tm
          rw [dif_pos hin]
          congr 1
        rw [e0.out] at HE2 pm
        clear e0 hin
        obtain ⟨bd, VB, vc, WB, wc, rfl, h1, h2, h3, hq⟩ := row_rat K1.out k hk
        have gv := HV1.out vs[k] (List.getElem_mem hk)
        generalize vs[k] = x at *
        obtain ⟨⟨xb, xn⟩, xd⟩ := x
        have hR1 := Lib.hid (hq.num gv)
        have hR2 := Lib.hid (hq.den gv)
        have gvn := gv.mn
        have gvd := gv.md
        clear hq gv
        go_wp2_with fail
        have hMul := Lib.hid (fun (W : World) (hb : Below w.heap.size w W) => r3_Mul sb BB cc us DD dd es xb VB vc xn WB wc xd W (HQ1.out.below hb) (by omega) (HQ2.out.below hb) (by omega) (hR1.out.below hb) (by omega) (hR2.out.below hb) (by omega))
        rw [show rv sb us es = rq ((sb, us), es) from rfl, show rv xb xn xd = rq ((xb, xn), xd) from rfl] at hMul
        generalize rq ((sb, us), es) * rq ((xb, xn), xd) = p at *
        have lp := pm.out.len
        have hAdd := Lib.hid (fun (W : World) (k1 : InQ W A1 c1 B1 d1 q1) (E : Option Addr) (j : Nat) (G : Option Addr) (l : Nat) (k3 : InQ W E j G l p) => r3_Add (decide (q1.num < 0)) A1 c1 (dg q1.num.natAbs) B1 d1 (dg q1.den) (decide (p.num < 0)) E j (dg p.num.natAbs) G l (dg p.den) W k1.num (by omega) k1.den (by omega) k3.num (by omega) k3.den (by omega))
        have HSm : q1 + p = valQ (f.take (i + 1)) vs := by rw [HE2.out, ← HE.out]
        rw [rv_can, rv_can, HSm] at hAdd
        clear HSm
        have sq := Lib.hid (HS1.out (i + 1) (by omega))
        obtain ⟨q, hq0⟩ : ∃ q, q = valQ (f.take (i + 1)) vs := ⟨_, rfl⟩
        rw [← hq0] at hAdd sq
        have HQV := Lib.hid hq0
        clear hq0
        have lq := sq.out.len
        clear HE HE2 pm HQ1 HQ2 hR1 hR2 sq
        have HC := HF
        replace HX := Lib.hid (HX.out.below (Below.drew (Below.refl _ _)))
        have HF_ := Lib.hid HF.out.drew
        clear HF
        have HF := HF_
        clear HF_
        refine start_ (n := 17) (S := fun w' => w'.cell? ⟨W1.heap.size, 0, none⟩ = some (.bool (decide (q1.num < 0))) ∧ w'.cell? ⟨W1.heap.size, 1, none⟩ = some (.slice A1 (dg q1.num.natAbs).length c1) ∧ w'.cell? ⟨W1.heap.size, 2, none⟩ = some (.slice B1 (dg q1.den).length d1) ∧ w'.cell? (ad.add (i * 4)) = some (.int .i64 (k : Int)) ∧ w'.cell? (nxt (ad.add (i * 4)) 1) = some (.bool sb) ∧ w'.cell? (nxt (ad.add (i * 4)) 2) = some (.slice BB us.length cc) ∧ w'.cell? (nxt (ad.add (i * 4)) 3) = some (.slice DD es.length dd) ∧ w'.cell? (bd.add (k * 3)) = some (.bool xb) ∧ w'.cell? (nxt (bd.add (k * 3)) 1) = some (.slice VB xn.length vc) ∧ w'.cell? (nxt (bd.add (k * 3)) 2) = some (.slice WB xd.length wc)) (ds := [16]) #[false, false, false, false, false, false, false, false, false, false, false, false, false, false, false, false, false] (by kernel_rfl) rfl rfl ⟨HF.out.cellN 0 rfl 0 rfl, HF.out.cellN 0 rfl 1 rfl, HF.out.cellN 0 rfl 2 rfl, cell_below HF.out.bel j1, cell_below HF.out.bel j2, cell_below HF.out.bel j3, cell_below HF.out.bel j4, cell_below HF.out.bel h1, cell_below HF.out.bel h2, cell_below HF.out.bel h3⟩ (fun hHeld => ?_)
        generalize World.drew _ = W at *
        refine pure_ (i := 1) (N := (some 31)) (v := ?_) (a' := ?_) #[false, true, false, false, false, false, false, false, false, false, false, false, false, false, false, false, false] rfl rfl (by kernel_rfl) (fun _ _ _ h => h) (Or.inl ⟨by rfl, ?_⟩) ?_ ?_
        rotate_left
        · intro w'
          go_simp
          with_reducible rfl
        rotate_left
        · simp only [Act.put, List.setIfInBounds_toArray, List.set_cons_zero, List.set_cons_succ]
          rfl
        refine pure_ (i := 2) (N := (some 32)) (v := ?_) (a' := ?_) #[false, true, true, false, false, false, false, false, false, false, false, false, false, false, false, false, false] rfl rfl (by kernel_rfl) (fun _ _ _ h => h) (Or.inl ⟨by rfl, ?_⟩) ?_ ?_
        rotate_left
        · intro w'
          go_simp
          with_reducible rfl
        rotate_left
        · simp only [Act.put, List.setIfInBounds_toArray, List.set_cons_zero, List.set_cons_succ]
          rfl
        refine pure_ (i := 3) (N := (some 33)) (v := ?_) (a' := ?_) #[false, true, true, true, false, false, false, false, false, false, false, false, false, false, false, false, false] rfl rfl (by kernel_rfl) (fun _ _ _ h => h) (Or.inl ⟨by rfl, ?_⟩) ?_ ?_
        rotate_left
        · intro w'
          go_simp
          with_reducible rfl
        rotate_left
        · simp only [Act.put, List.setIfInBounds_toArray, List.set_cons_zero, List.set_cons_succ]
          rfl
        refine pure_ (i := 4) (N := (some 34)) (v := ?_) (a' := ?_) #[false, true, true, true, true, false, false, false, false, false, false, false, false, false, false, false, false] rfl rfl (by kernel_rfl) (fun _ _ _ h => h) (Or.inl ⟨by rfl, ?_⟩) ?_ ?_
        rotate_left
        · intro w'
          go_simp
          with_reducible rfl
        rotate_left
        · simp only [Act.put, List.setIfInBounds_toArray, List.set_cons_zero, List.set_cons_succ]
          rfl
        refine pure_ (i := 6) (N := (some 36)) (v := ?_) (a' := ?_) #[false, true, true, true, true, false, true, false, false, false, false, false, false, false, false, false, false] rfl rfl (by kernel_rfl) (fun _ _ _ h => h) (Or.inl ⟨by rfl, ?_⟩) ?_ ?_
        rotate_left
        · intro w'
          go_simp
          with_reducible rfl
        rotate_left
        · simp only [Act.put, List.setIfInBounds_toArray, List.set_cons_zero, List.set_cons_succ]
          rfl
        refine pure_ (i := 7) (N := (some 37)) (v := ?_) (a' := ?_) #[false, true, true, true, true, false, true, true, false, false, false, false, false, false, false, false, false] rfl rfl (by kernel_rfl) (fun _ _ _ h => h) (Or.inl ⟨by rfl, ?_⟩) ?_ ?_
        rotate_left
        · intro w'
          go_simp
          with_reducible rfl
        rotate_left
        · simp only [Act.put, List.setIfInBounds_toArray, List.set_cons_zero, List.set_cons_succ]
          rfl
        refine pure_ (i := 8) (N := (some 38)) (v := ?_) (a' := ?_) #[false, true, true, true, true, false, true, true, true, false, false, false, false, false, false, false, false] rfl rfl (by kernel_rfl) (fun _ _ _ h => h) (Or.inl ⟨by rfl, ?_⟩) ?_ ?_
        rotate_left
        · intro w'
          go_simp
          with_reducible rfl
        rotate_left
        · simp only [Act.put, List.setIfInBounds_toArray, List.set_cons_zero, List.set_cons_succ]
          rfl
        refine pure_ (i := 9) (N := (some 39)) (v := ?_) (a' := ?_) #[false, true, true, true, true, false, true, true, true, true, false, false, false, false, false, false, false] rfl rfl (by kernel_rfl) (fun _ _ _ h => h) (Or.inl ⟨by rfl, ?_⟩) ?_ ?_
        rotate_left
        · intro w'
          go_simp
          with_reducible rfl
        rotate_left
        · simp only [Act.put, List.setIfInBounds_toArray, List.set_cons_zero, List.set_cons_succ]
          rfl
        refine pure_ (i := 10) (N := (some 40)) (v := ?_) (a' := ?_) #[false, true, true, true, true, false, true, true, true, true, true, false, false, false, false, false, false] rfl rfl (by kernel_rfl) (fun _ _ _ h => h) (Or.inl ⟨by rfl, ?_⟩) ?_ ?_
        rotate_left
        · intro w'
          go_simp
          with_reducible rfl
        rotate_left
        · simp only [Act.put, List.setIfInBounds_toArray, List.set_cons_zero, List.set_cons_succ]
          rfl
        refine take_ (i := 0) (N := (some 30)) (v := ?_) (a' := ?_) #[true, true, true, true, true, false, true, true, true, true, true, false, false, false, false, false, false] rfl rfl (by kernel_rfl) (fun _ _ _ h => h) (Or.inl ⟨by rfl, ?_⟩) hHeld ?_ ?_
        rotate_left
        · rintro w' ⟨s0, s1, s2, s3, s4, s5, s6, s7, s8, s9⟩
          go_simp
          with_reducible rfl
        rotate_left
        · simp only [Act.put, List.setIfInBounds_toArray, List.set_cons_zero, List.set_cons_succ]
          rfl
        refine take_ (i := 5) (N := (some 35)) (v := ?_) (a' := ?_) #[true, true, true, true, true, true, true, true, true, true, true, false, false, false, false, false, false] rfl rfl (by kernel_rfl) (fun _ _ _ h => h) (Or.inl ⟨by rfl, ?_⟩) hHeld ?_ ?_
        rotate_left
        · rintro w' ⟨s0, s1, s2, s3, s4, s5, s6, s7, s8, s9⟩
          go_simp
          with_reducible rfl
        rotate_left
        · simp only [Act.put, List.setIfInBounds_toArray, List.set_cons_zero, List.set_cons_succ]
          rfl
        refine take_ (i := 11) (N := (some 41)) (v := ?_) (a' := ?_) #[true, true, true, true, true, true, true, true, true, true, true, true, false, false, false, false, false] rfl rfl (by kernel_rfl) (fun _ _ _ h => h) (Or.inl ⟨by rfl, ?_⟩) hHeld ?_ ?_
        rotate_left
        · rintro w' ⟨s0, s1, s2, s3, s4, s5, s6, s7, s8, s9⟩
          go_simp
          with_reducible rfl
        rotate_left
        · simp only [Act.put, List.setIfInBounds_toArray, List.set_cons_zero, List.set_cons_succ]
          rfl
        refine pure_ (i := 12) (N := (some 42)) (v := ?_) (a' := ?_) #[true, true, true, true, true, true, true, true, true, true, true, true, true, false, false, false, false] rfl rfl (by kernel_rfl) (fun _ _ _ h => h) (Or.inl ⟨by rfl, ?_⟩) ?_ ?_
        rotate_left
        · intro w'
          go_simp
          with_reducible rfl
        rotate_left
        · simp only [Act.put, List.setIfInBounds_toArray, List.set_cons_zero, List.set_cons_succ]
          rfl
        refine take_ (i := 13) (N := (some 43)) (v := ?_) (a' := ?_) #[true, true, true, true, true, true, true, true, true, true, true, true, true, true, false, false, false] rfl rfl (by kernel_rfl) (fun _ _ _ h => h) (Or.inl ⟨by rfl, ?_⟩) hHeld ?_ ?_
        rotate_left
        · rintro w' ⟨s0, s1, s2, s3, s4, s5, s6, s7, s8, s9⟩
          go_simp
          with_reducible rfl
        rotate_left
        · simp only [Act.put, List.setIfInBounds_toArray, List.set_cons_zero, List.set_cons_succ]
          rfl
        refine one_ (i := 14) (N := (some 44)) #[true, true, true, true, true, true, true, true, true, true, true, true, true, true, true, false, false] rfl rfl (by kernel_rfl) (by decide) (fun K hK => ?_)
        refine goes_ Try.func51 (by kernel_rfl) rfl #[.agg #[.bool sb, .slice BB us.length cc, .slice DD es.length dd], .agg #[.bool xb, .slice VB xn.length vc, .slice WB xd.length wc]] (by rfl) rfl rfl (by (try simp only [List.map_toArray, List.map_cons, List.map_nil]); first | done | rfl) ?_
        refine (hMul.out W HF.out.bel).mono ?_
        rintro e W1 ⟨A2, c2, B2, d2, rfl, g1, g2, g3⟩
        refine ⟨_, rfl, ?_⟩
        replace HF := Lib.hid (HF.out.below g3)
        replace HX := Lib.hid (HX.out.below g3)
        have Q1 := Lib.hid (InQ.mk g1 g2)
        clear g1 g2 g3
        refine hK.out _ _ ⟨HF.out.cellN 0 rfl 0 rfl, HF.out.cellN 0 rfl 1 rfl, HF.out.cellN 0 rfl 2 rfl, cell_below HF.out.bel j1, cell_below HF.out.bel j2, cell_below HF.out.bel j3, cell_below HF.out.bel j4, cell_below HF.out.bel h1, cell_below HF.out.bel h2, cell_below HF.out.bel h3⟩ (fun hHeld => ?_)
        clear hK K
        refine norm_ (a' := ?_) ?_ ?_
        rotate_left
        · show Act.put _ (some 44) _ = _
          simp only [Act.put, List.setIfInBounds_toArray, List.set_cons_zero, List.set_cons_succ]
          rfl
        refine one_ (i := 15) (N := (some 45)) #[true, true, true, true, true, true, true, true, true, true, true, true, true, true, true, true, false] rfl rfl (by kernel_rfl) (by decide) (fun K hK => ?_)
        refine goes_ Try.func30 (by kernel_rfl) rfl #[.agg #[.bool (decide (q1.num < 0)), .slice A1 (dg q1.num.natAbs).length c1, .slice B1 (dg q1.den).length d1], .agg #[.bool (decide (p.num < 0)), .slice A2 (dg p.num.natAbs).length c2, .slice B2 (dg p.den).length d2]] (by rfl) rfl rfl (by (try simp only [List.map_toArray, List.map_cons, List.map_nil]); first | done | rfl) ?_
        refine (hAdd.out W1 HX.out A2 c2 B2 d2 Q1.out).mono ?_
        rintro e W2 ⟨A3, c3, B3, d3, rfl, g1, g2, g3⟩
        refine ⟨_, rfl, ?_⟩
        replace HF := Lib.hid (HF.out.below g3)
        replace Q1 := Lib.hid (InQ.mk g1 g2)
        clear g1 g2 g3 HX
        refine hK.out _ _ ⟨HF.out.cellN 0 rfl 0 rfl, HF.out.cellN 0 rfl 1 rfl, HF.out.cellN 0 rfl 2 rfl, cell_below HF.out.bel j1, cell_below HF.out.bel j2, cell_below HF.out.bel j3, cell_below HF.out.bel j4, cell_below HF.out.bel h1, cell_below HF.out.bel h2, cell_below HF.out.bel h3⟩ (fun hHeld => ?_)
        clear hK K
        refine norm_ (a' := ?_) ?_ ?_
        rotate_left
        · show Act.put _ (some 45) _ = _
          simp only [Act.put, List.setIfInBounds_toArray, List.set_cons_zero, List.set_cons_succ]
          rfl
        refine last_ (i := 16) (N := none) #[true, true, true, true, true, true, true, true, true, true, true, true, true, true, true, true, true] rfl rfl (by kernel_rfl) (by decide) (fun K hK => ?_)
        have hf0 := HF.out.frozenN 0 rfl 0
        have hf1 := HF.out.frozenN 0 rfl 1
        have hf2 := HF.out.frozenN 0 rfl 2
        have hd0 := HF.out.cellN 0 rfl 0 rfl
        have hd1 := HF.out.cellN 0 rfl 1 rfl
        have hd2 := HF.out.cellN 0 rfl 2 rfl
        refine skip_ (w1 := ?_) (by rfl) rfl ?_ ?_
        rotate_left
        · go_simp
          rfl
        replace Q1 := Lib.hid (Q1.out.put3 (HF.out.ownN 0 rfl) (by simp) (a := .bool (decide (q.num < 0))) (by simp) (b := .slice A3 (dg q.num.natAbs).length c3) (by simp) (.slice B3 (dg q.den).length d3))
        replace HF := Lib.hid (HF.out.put3 0 rfl (by omega) (by simp; omega) (.bool (decide (q.num < 0))) (.slice A3 (dg q.num.natAbs).length c3) (.slice B3 (dg q.den).length d3))
        refine hK.out _ _ ?_
        clear hK K
        refine done_ (by kernel_rfl) ?_
        go_wp2
        go_roundg (f.length - (i + 1))
        case measure => omega
        case rel => exact ⟨i + 1, q, A3, c3, B3, d3, by omega, by go_num, HF.out, Q1.out, lq.1, lq.2, HQV⟩
      · have e0 : Hid (tm vs (v, (sb, us), es) = 0) := by
          show _ = _
          unfold tm
          rw [dif_neg hin]
        have HE3 : Hid (q1 = valQ (f.take (i + 1)) vs) := by
          show _ = _
          rw [HE2.out, e0.out, ← HE.out]; exact (Rat.add_zero _).symm
        clear e0 HE HE2 pm
        by_cases h0 : 0 ≤ v
        · have h1 : ¬ v < (vs.length : Int) := fun h => hin ⟨h0, h⟩
          go_wp2
          go_roundg (f.length - (i + 1))
          case measure => omega
          case rel => exact ⟨i + 1, q1, A1, c1, B1, d1, by omega, by go_num, HF, HX, lx, ly, HE3⟩
        · go_wp2
          go_roundg (f.length - (i + 1))
          case measure => omega
          case rel => exact ⟨i + 1, q1, A1, c1, B1, d1, by omega, by go_num, HF, HX, lx, ly, HE3⟩
    · have hltz : ¬ (i : Int) < (f.length : Int) := by omega
      have HE3 : Hid (q1 = valQ f vs) := by
        show _ = _
        rw [HE.out, List.take_of_length_le (by omega)]
      clear HE
      have hc0 := HF.out.cellN 0 rfl 0 rfl
      have hc1 := HF.out.cellN 0 rfl 1 rfl
      have hc2 := HF.out.cellN 0 rfl 2 rfl
      have hf0 := HF.out.frozenN 1 rfl 0
      have hf1 := HF.out.frozenN 1 rfl 1
      have hf2 := HF.out.frozenN 1 rfl 2
      have hd0 := HF.out.cellN 1 rfl 0 rfl
      have hd1 := HF.out.cellN 1 rfl 1 rfl
      have hd2 := HF.out.cellN 1 rfl 2 rfl
      have HE := Lib.hid (end_rat HF.out.tail (by simp) (by simp) (by omega) HX.out.num HX.out.den rfl)
      generalize decide (q1.num < 0) = b at HE hc0 ⊢
      go_wp2
      obtain ⟨f1, f2⟩ := HE.out
      refine post_own f2 rfl rfl rfl Try.underlying31 rfl (by kernel_rfl) ?_
      rw [← HE3.out]
      exact f1
end Go.Proofs.Ytchdoignomidjaa.F

/- The walk of the reference's Deltas, and of fulcrummem.SameDelta where both are the same. -/
import Derived.Test.YtchdoignomidjaaDval
import Derived.Test.YtchdoignomidjaaValub
set_option linter.unusedVariables false
set_option linter.unusedSimpArgs false
namespace Go.Proofs.Ytchdoignomidjaa.F
open Go.RowKit Go.Shelf Go.Proofs.YtchdoignomidjaaW.PrintLast

set_option maxHeartbeats 1000000 in
set_option maxRecDepth 100000 in
theorem r5_Of (s : Bool) (A : Option Addr) (c : Nat) (xs : List Int) (B : Option Addr) (d : Nat) (ys : List Int) (w : World) (h : In w A c xs) (hm : xs.length ≤ 549755813888) (k : In w B d ys) (km : ys.length ≤ 549755813888) :
    Calls Try.prog 67 #[.agg #[.bool s, .slice A xs.length c, .slice B ys.length d]] w fun e w' => ToldDl w (rv s xs ys) 0 e w' := by
  have hN := Lib.hid (fun (W : World) (hb : Below w.heap.size w W) => r5_Norm s A c xs B d ys false none 0 [] none 0 [] W (h.below hb) hm (k.below hb) km (In.nil _ _ _) (by simp) (In.nil _ _ _) (by simp))
  rw [show rv false [] [] = 0 from Rat.mkRat_zero _] at hN
  obtain ⟨q, hq⟩ : ∃ q : Rat, q = 0 := ⟨_, rfl⟩
  rw [← hq] at hN ⊢
  generalize rv s xs ys = p at *
  clear hq h k
  have HF := Lib.hid (((Fr.refl w).box [.bool s, .slice A xs.length c, .slice B ys.length d] 31).box [.bool false, .slice none 0 0, .slice none 0 0, .bool false, .slice none 0 0, .slice none 0 0] 37)
  have hsz : (w.alloc (.cells [Value.bool s, .slice A xs.length c, .slice B ys.length d].toArray 31)).heap.size = w.heap.size + 1 := by simp
  rw [hsz] at HF
  clear hsz
  go_enter Try.func67, Try.ntmps67
  go_wp2_with fail
  refine (hN.out _ HF.out.bel).mono ?_
  rintro e W1 ⟨A2, c2, B2, d2, E2, j2, G2, l2, rfl, q1, q2, q3⟩
  replace HF := Lib.hid (HF.out.below q3)
  have Q1 := Lib.hid q1
  have Q2 := Lib.hid q2
  clear q1 q2 q3
  have hf0 := HF.out.frozenN 0 rfl 0
  have hd0 := HF.out.cellN 0 rfl 0 rfl
  have hf1 := HF.out.frozenN 0 rfl 1
  have hd1 := HF.out.cellN 0 rfl 1 rfl
  have hf2 := HF.out.frozenN 0 rfl 2
  have hd2 := HF.out.cellN 0 rfl 2 rfl
  have hf3 := HF.out.frozenN 0 rfl 3
  have hd3 := HF.out.cellN 0 rfl 3 rfl
  have hf4 := HF.out.frozenN 0 rfl 4
  have hd4 := HF.out.cellN 0 rfl 4 rfl
  have hf5 := HF.out.frozenN 0 rfl 5
  have hd5 := HF.out.cellN 0 rfl 5 rfl
  have HE := Lib.hid (end_delta HF.out (fun y hy => by simp at hy) (by simp) (by omega) Q1.out Q2.out rfl)
  generalize decide (p.num < 0) = b at HE ⊢
  generalize decide (q.num < 0) = b2 at HE ⊢
  go_wp2
  obtain ⟨f1, f2⟩ := HE.out
  exact post_own f2 rfl rfl rfl Try.underlying37 rfl (by kernel_rfl) f1

set_option maxHeartbeats 2000000 in
set_option maxRecDepth 100000 in
theorem r6_Deltas (A : Option Addr) (c : Nat) (f : List (Int × RatD)) (B : Option Addr) (d : Nat) (vs : List DelD) (w : World) (M : Nat) (h : kMono.Row w A f) (hc : f.length ≤ c) (k : kDelta.Row w B vs) (kc : vs.length ≤ d)
    (hf : ∀ m ∈ f, Good M m.2) (hv : ∀ x ∈ vs, Good M x.1 ∧ Good M x.2) (hp : ∀ m ∈ f, Sz M (tm (fsts vs) m) ∧ Sz M (tm (snds vs) m)) (hs : ∀ i, i ≤ f.length → Sz M (valQ (f.take i) (fsts vs)) ∧ Sz M (valQ (f.take i) (snds vs))) (hM : M ≤ 137438953472) (hl : f.length ≤ 1099511627776) (kl : vs.length ≤ 1099511627776) :
    Calls Try.prog 21 #[.slice A f.length c, .slice B vs.length d] w fun e w' => ToldDl w (valQ f (fsts vs)) (valQ f (snds vs)) e w' := by
  have H1 := Lib.hid h
  have K1 := Lib.hid k
  have HF1 := Lib.hid hf
  have HV1 := Lib.hid hv
  have HP1 := Lib.hid hp
  have HS1 := Lib.hid hs
  have hZ := Lib.hid (fun (W : World) => r6_zero W)
  have hOf := Lib.hid (fun (W : World) (A' : Option Addr) (c' : Nat) (B' : Option Addr) (d' : Nat) (k : InQ W A' c' B' d' 0) => r5_Of (decide ((0 : Rat).num < 0)) A' c' (dg (0 : Rat).num.natAbs) B' d' (dg (0 : Rat).den) W k.num (Nat.le_trans Sz.zero.len.1 (by omega)) k.den (Nat.le_trans Sz.zero.len.2 (by omega)))
  rw [rv_can] at hOf
  obtain ⟨q0, hq0⟩ : ∃ q : Rat, q = 0 := ⟨_, rfl⟩
  rw [← hq0] at hZ hOf
  have hzl : (dg q0.num.natAbs).length ≤ M ∧ (dg q0.den).length ≤ M := (hq0 ▸ (hs 0 (Nat.zero_le _)).1 : Sz M q0).len
  have HZ := Lib.hid (show q0 = valQ (f.take 0) (fsts vs) from hq0)
  have HZ2 := Lib.hid (show q0 = valQ (f.take 0) (snds vs) from hq0)
  have HF := Lib.hid ((Fr.refl w).box [.bool false, .slice none 0 0, .slice none 0 0, .bool false, .slice none 0 0, .slice none 0 0] 37)
  clear h k hf hv hp hs hq0
  go_enter Try.func21, Try.ntmps21
  go_wp2_with fail
  refine (hZ.out _).mono ?_
  rintro e W0 ⟨A0, c0, B0, d0, rfl, g1, g2, g3⟩
  replace HF := Lib.hid (HF.out.below g3)
  have Q0 := Lib.hid (InQ.mk g1 g2)
  clear g1 g2 g3 hZ
  go_wp2_with fail
  refine (hOf.out W0 A0 c0 B0 d0 Q0.out).mono ?_
  clear Q0
  rintro e W1 ⟨A0, c0, B0, d0, E0, j0, G0, l0, rfl, g1, g2, g3⟩
  replace HF := Lib.hid (HF.out.below g3)
  have hgw : w.heap.size < W1.heap.size := HF.out.ltN 0 rfl
  replace HF := Lib.hid (HF.out.box [.bool (decide (q0.num < 0)), .slice A0 (dg q0.num.natAbs).length c0, .slice B0 (dg q0.den).length d0, .bool (decide (q0.num < 0)), .slice E0 (dg q0.num.natAbs).length j0, .slice G0 (dg q0.den).length l0] 37)
  have hal := Lib.hid ((Below.refl _ W1).alloc (Nat.le_refl _) (.cells #[.bool (decide (q0.num < 0)), .slice A0 (dg q0.num.natAbs).length c0, .slice B0 (dg q0.den).length d0, .bool (decide (q0.num < 0)), .slice E0 (dg q0.num.natAbs).length j0, .slice G0 (dg q0.den).length l0] 37))
  have Q0 := Lib.hid (g1.below hal.out)
  have O0 := Lib.hid (g2.below hal.out)
  clear g1 g2 g3 hOf hal
  go_wp2
  go_loopg [6] f.length (fun gg s6 wr => ∃ (i : Nat) (q o : Rat) (A1 : Option Addr) (c1 : Nat) (B1 : Option Addr) (d1 : Nat) (E1 : Option Addr) (j1 : Nat) (G1 : Option Addr) (l1 : Nat), i + gg = f.length ∧ s6 = .int .i64 i ∧ Hid (Fr w wr [(W1.heap.size, [.bool (decide (q.num < 0)), .slice A1 (dg q.num.natAbs).length c1, .slice B1 (dg q.den).length d1, .bool (decide (o.num < 0)), .slice E1 (dg o.num.natAbs).length j1, .slice G1 (dg o.den).length l1]), (w.heap.size, [.bool false, .slice none 0 0, .slice none 0 0, .bool false, .slice none 0 0, .slice none 0 0])]) ∧ Hid (InQ wr A1 c1 B1 d1 q) ∧ Hid (InQ wr E1 j1 G1 l1 o) ∧ (dg q.num.natAbs).length ≤ M ∧ (dg q.den).length ≤ M ∧ (dg o.num.natAbs).length ≤ M ∧ (dg o.den).length ≤ M ∧ Hid (q = valQ (f.take i) (fsts vs)) ∧ Hid (o = valQ (f.take i) (snds vs)))
  case atStart => exact ⟨0, q0, q0, A0, c0, B0, d0, E0, j0, G0, l0, by omega, rfl, HF, Q0, O0, hzl.1, hzl.2, hzl.1, hzl.2, HZ, HZ2⟩
  case round =>
    clear HF Q0 O0 HZ HZ2 hzl
    obtain ⟨i, q1, o1, A1, c1, B1, d1, E1, j1, G1, l1, hg, rfl, HF, HX, HY, lx, ly, lu, lz, HE, HG⟩ := hrel
    by_cases hlt : i < f.length
    · have hltz : (i : Int) < (f.length : Int) := by omega
      obtain ⟨ad, BB, cc, DD, dd, rfl, i1, i2, i3, i4, hq⟩ := row_mono H1.out i hlt
      have gm := HF1.out f[i] (List.getElem_mem hlt)
      have pm := HP1.out f[i] (List.getElem_mem hlt)
      have pm1 := Lib.hid pm.1
      have pm2 := Lib.hid pm.2
      clear pm
      have HE2 := Lib.hid (valQ_succ f (fsts vs) i hlt)
      have HG2 := Lib.hid (valQ_succ f (snds vs) i hlt)
      generalize f[i] = m at *
      obtain ⟨v, ⟨sb, ms⟩, es⟩ := m
      have gn := gm.mn
      have gd := gm.md
      have hj := cell_below HF.out.bel i1
      have HQ := Lib.hid (hq.inD gm)
      clear hq gm
      by_cases hin : 0 ≤ v ∧ v < (vs.length : Int)
      · obtain ⟨k, rfl⟩ : ∃ k : Nat, v = k := ⟨v.toNat, by omega⟩
        have hk : k < vs.length := by omega
        have hkz := hin.2
        have hk0 := hin.1
        have e0 := Lib.hid (tm_in hk ((sb, ms), es))
        rw [e0.out.1] at HE2 pm1
        rw [e0.out.2] at HG2 pm2
        clear e0 hin
        obtain ⟨bd, VB, vc, WB, wc, XB, xc, YB, yc, rfl, h1, h2, h3, h4, h5, h6, hq, hr⟩ := row_delta K1.out k hk
        have gv := HV1.out vs[k] (List.getElem_mem hk)
        generalize vs[k] = x at *
        obtain ⟨⟨⟨xb, xn⟩, xd⟩, ⟨⟨yb, yn⟩, yd⟩⟩ := x
        have hR1 := Lib.hid (hq.inD gv.1)
        have hR2 := Lib.hid (hr.inD gv.2)
        have gvn := gv.1.mn
        have gvd := gv.1.md
        have gwn := gv.2.mn
        have gwd := gv.2.md
        clear hq hr gv
        go_wp2_with fail
        have hMul := Lib.hid (fun (W : World) (hb : Below w.heap.size w W) => r5_Scale sb BB cc ms DD dd es xb VB vc xn WB wc xd yb XB xc yn YB yc yd W (HQ.out.num.below hb) (by show ms.length ≤ _; omega) (HQ.out.den.below hb) (by show es.length ≤ _; omega) (hR1.out.num.below hb) (by show xn.length ≤ _; omega) (hR1.out.den.below hb) (by show xd.length ≤ _; omega) (hR2.out.num.below hb) (by show yn.length ≤ _; omega) (hR2.out.den.below hb) (by show yd.length ≤ _; omega))
        rw [show rv sb ms es = rq ((sb, ms), es) from rfl, show rv xb xn xd = rq ((xb, xn), xd) from rfl, show rv yb yn yd = rq ((yb, yn), yd) from rfl] at hMul
        generalize rq ((sb, ms), es) * rq ((xb, xn), xd) = p at *
        generalize rq ((sb, ms), es) * rq ((yb, yn), yd) = r at *
        have lp := pm1.out.len
        have lr := pm2.out.len
        have hAdd := Lib.hid (fun (W : World) (k1 : InQ W A1 c1 B1 d1 q1) (k2 : InQ W E1 j1 G1 l1 o1) (E : Option Addr) (j : Nat) (G : Option Addr) (l : Nat) (k3 : InQ W E j G l p) (E' : Option Addr) (j' : Nat) (G' : Option Addr) (l' : Nat) (k4 : InQ W E' j' G' l' r) => r5_Add (decide (q1.num < 0)) A1 c1 (dg q1.num.natAbs) B1 d1 (dg q1.den) (decide (o1.num < 0)) E1 j1 (dg o1.num.natAbs) G1 l1 (dg o1.den) (decide (p.num < 0)) E j (dg p.num.natAbs) G l (dg p.den) (decide (r.num < 0)) E' j' (dg r.num.natAbs) G' l' (dg r.den) W k1.num (by omega) k1.den (by omega) k2.num (by omega) k2.den (by omega) k3.num (by omega) k3.den (by omega) k4.num (by omega) k4.den (by omega))
        have HSm : q1 + p = valQ (f.take (i + 1)) (fsts vs) := by rw [HE2.out, ← HE.out]
        have HSn : o1 + r = valQ (f.take (i + 1)) (snds vs) := by rw [HG2.out, ← HG.out]
        simp only [rv_can] at hAdd
        rw [HSm, HSn] at hAdd
        clear HSm HSn
        have sq := HS1.out (i + 1) (by omega)
        have sq1 := Lib.hid sq.1
        have sq2 := Lib.hid sq.2
        clear sq
        obtain ⟨q, hq0⟩ : ∃ q, q = valQ (f.take (i + 1)) (fsts vs) := ⟨_, rfl⟩
        rw [← hq0] at hAdd sq1
        have HQV := Lib.hid hq0
        clear hq0
        obtain ⟨o, hq0⟩ : ∃ q, q = valQ (f.take (i + 1)) (snds vs) := ⟨_, rfl⟩
        rw [← hq0] at hAdd sq2
        have HOV := Lib.hid hq0
        clear hq0
        have lq := sq1.out.len
        have lo := sq2.out.len
        clear HE HE2 HG HG2 pm1 pm2 HQ hR1 hR2 sq1 sq2
        replace HX := Lib.hid (HX.out.below (Below.drew (Below.refl _ _)))
        replace HY := Lib.hid (HY.out.below (Below.drew (Below.refl _ _)))
        have HF_ := Lib.hid HF.out.drew
        clear HF
        have HF := HF_
        clear HF_
        refine start_ (n := 17) (S := fun w' => w'.cell? ⟨W1.heap.size, 0, none⟩ = some (.bool (decide (q1.num < 0))) ∧ w'.cell? ⟨W1.heap.size, 1, none⟩ = some (.slice A1 (dg q1.num.natAbs).length c1) ∧ w'.cell? ⟨W1.heap.size, 2, none⟩ = some (.slice B1 (dg q1.den).length d1) ∧ w'.cell? ⟨W1.heap.size, 3, none⟩ = some (.bool (decide (o1.num < 0))) ∧ w'.cell? ⟨W1.heap.size, 4, none⟩ = some (.slice E1 (dg o1.num.natAbs).length j1) ∧ w'.cell? ⟨W1.heap.size, 5, none⟩ = some (.slice G1 (dg o1.den).length l1) ∧ w'.cell? (ad.add (i * 4)) = some (.int .i64 (k : Int)) ∧ w'.cell? (nxt (ad.add (i * 4)) 1) = some (.bool sb) ∧ w'.cell? (nxt (ad.add (i * 4)) 2) = some (.slice BB ms.length cc) ∧ w'.cell? (nxt (ad.add (i * 4)) 3) = some (.slice DD es.length dd) ∧ w'.cell? (bd.add (k * 6)) = some (.bool xb) ∧ w'.cell? (nxt (bd.add (k * 6)) 1) = some (.slice VB xn.length vc) ∧ w'.cell? (nxt (bd.add (k * 6)) 2) = some (.slice WB xd.length wc) ∧ w'.cell? (nxt (bd.add (k * 6)) 3) = some (.bool yb) ∧ w'.cell? (nxt (bd.add (k * 6)) 4) = some (.slice XB yn.length xc) ∧ w'.cell? (nxt (bd.add (k * 6)) 5) = some (.slice YB yd.length yc)) (ds := [16]) #[false, false, false, false, false, false, false, false, false, false, false, false, false, false, false, false, false] (by kernel_rfl) rfl rfl ⟨HF.out.cellN 0 rfl 0 rfl, HF.out.cellN 0 rfl 1 rfl, HF.out.cellN 0 rfl 2 rfl, HF.out.cellN 0 rfl 3 rfl, HF.out.cellN 0 rfl 4 rfl, HF.out.cellN 0 rfl 5 rfl, cell_below HF.out.bel i1, cell_below HF.out.bel i2, cell_below HF.out.bel i3, cell_below HF.out.bel i4, cell_below HF.out.bel h1, cell_below HF.out.bel h2, cell_below HF.out.bel h3, cell_below HF.out.bel h4, cell_below HF.out.bel h5, cell_below HF.out.bel h6⟩ (fun hHeld => ?_)
        generalize World.drew _ = W at *
        refine pure_ (i := 1) (N := (some 32)) (v := ?_) (a' := ?_) #[false, true, false, false, false, false, false, false, false, false, false, false, false, false, false, false, false] rfl rfl (by kernel_rfl) (fun _ _ _ h => h) (Or.inl ⟨by rfl, ?_⟩) ?_ ?_
        rotate_left
        · intro w'
          go_simp
          with_reducible rfl
        rotate_left
        · simp only [Act.put, List.setIfInBounds_toArray, List.set_cons_zero, List.set_cons_succ]
          rfl
        refine pure_ (i := 2) (N := (some 33)) (v := ?_) (a' := ?_) #[false, true, true, false, false, false, false, false, false, false, false, false, false, false, false, false, false] rfl rfl (by kernel_rfl) (fun _ _ _ h => h) (Or.inl ⟨by rfl, ?_⟩) ?_ ?_
        rotate_left
        · intro w'
          go_simp
          with_reducible rfl
        rotate_left
        · simp only [Act.put, List.setIfInBounds_toArray, List.set_cons_zero, List.set_cons_succ]
          rfl
        refine pure_ (i := 3) (N := (some 34)) (v := ?_) (a' := ?_) #[false, true, true, true, false, false, false, false, false, false, false, false, false, false, false, false, false] rfl rfl (by kernel_rfl) (fun _ _ _ h => h) (Or.inl ⟨by rfl, ?_⟩) ?_ ?_
        rotate_left
        · intro w'
          go_simp
          with_reducible rfl
        rotate_left
        · simp only [Act.put, List.setIfInBounds_toArray, List.set_cons_zero, List.set_cons_succ]
          rfl
        refine pure_ (i := 4) (N := (some 35)) (v := ?_) (a' := ?_) #[false, true, true, true, true, false, false, false, false, false, false, false, false, false, false, false, false] rfl rfl (by kernel_rfl) (fun _ _ _ h => h) (Or.inl ⟨by rfl, ?_⟩) ?_ ?_
        rotate_left
        · intro w'
          go_simp
          with_reducible rfl
        rotate_left
        · simp only [Act.put, List.setIfInBounds_toArray, List.set_cons_zero, List.set_cons_succ]
          rfl
        refine pure_ (i := 6) (N := (some 37)) (v := ?_) (a' := ?_) #[false, true, true, true, true, false, true, false, false, false, false, false, false, false, false, false, false] rfl rfl (by kernel_rfl) (fun _ _ _ h => h) (Or.inl ⟨by rfl, ?_⟩) ?_ ?_
        rotate_left
        · intro w'
          go_simp
          with_reducible rfl
        rotate_left
        · simp only [Act.put, List.setIfInBounds_toArray, List.set_cons_zero, List.set_cons_succ]
          rfl
        refine pure_ (i := 7) (N := (some 38)) (v := ?_) (a' := ?_) #[false, true, true, true, true, false, true, true, false, false, false, false, false, false, false, false, false] rfl rfl (by kernel_rfl) (fun _ _ _ h => h) (Or.inl ⟨by rfl, ?_⟩) ?_ ?_
        rotate_left
        · intro w'
          go_simp
          with_reducible rfl
        rotate_left
        · simp only [Act.put, List.setIfInBounds_toArray, List.set_cons_zero, List.set_cons_succ]
          rfl
        refine pure_ (i := 8) (N := (some 39)) (v := ?_) (a' := ?_) #[false, true, true, true, true, false, true, true, true, false, false, false, false, false, false, false, false] rfl rfl (by kernel_rfl) (fun _ _ _ h => h) (Or.inl ⟨by rfl, ?_⟩) ?_ ?_
        rotate_left
        · intro w'
          go_simp
          with_reducible rfl
        rotate_left
        · simp only [Act.put, List.setIfInBounds_toArray, List.set_cons_zero, List.set_cons_succ]
          rfl
        refine pure_ (i := 9) (N := (some 40)) (v := ?_) (a' := ?_) #[false, true, true, true, true, false, true, true, true, true, false, false, false, false, false, false, false] rfl rfl (by kernel_rfl) (fun _ _ _ h => h) (Or.inl ⟨by rfl, ?_⟩) ?_ ?_
        rotate_left
        · intro w'
          go_simp
          with_reducible rfl
        rotate_left
        · simp only [Act.put, List.setIfInBounds_toArray, List.set_cons_zero, List.set_cons_succ]
          rfl
        refine pure_ (i := 10) (N := (some 41)) (v := ?_) (a' := ?_) #[false, true, true, true, true, false, true, true, true, true, true, false, false, false, false, false, false] rfl rfl (by kernel_rfl) (fun _ _ _ h => h) (Or.inl ⟨by rfl, ?_⟩) ?_ ?_
        rotate_left
        · intro w'
          go_simp
          with_reducible rfl
        rotate_left
        · simp only [Act.put, List.setIfInBounds_toArray, List.set_cons_zero, List.set_cons_succ]
          rfl
        refine take_ (i := 0) (N := (some 31)) (v := ?_) (a' := ?_) #[true, true, true, true, true, false, true, true, true, true, true, false, false, false, false, false, false] rfl rfl (by kernel_rfl) (fun _ _ _ h => h) (Or.inl ⟨by rfl, ?_⟩) hHeld ?_ ?_
        rotate_left
        · rintro w' ⟨s0, s1, s2, s3, s4, s5, s6, s7, s8, s9, s10, s11, s12, s13, s14, s15⟩
          go_simp
          with_reducible rfl
        rotate_left
        · simp only [Act.put, List.setIfInBounds_toArray, List.set_cons_zero, List.set_cons_succ]
          rfl
        refine take_ (i := 5) (N := (some 36)) (v := ?_) (a' := ?_) #[true, true, true, true, true, true, true, true, true, true, true, false, false, false, false, false, false] rfl rfl (by kernel_rfl) (fun _ _ _ h => h) (Or.inl ⟨by rfl, ?_⟩) hHeld ?_ ?_
        rotate_left
        · rintro w' ⟨s0, s1, s2, s3, s4, s5, s6, s7, s8, s9, s10, s11, s12, s13, s14, s15⟩
          go_simp
          with_reducible rfl
        rotate_left
        · simp only [Act.put, List.setIfInBounds_toArray, List.set_cons_zero, List.set_cons_succ]
          rfl
        refine take_ (i := 11) (N := (some 42)) (v := ?_) (a' := ?_) #[true, true, true, true, true, true, true, true, true, true, true, true, false, false, false, false, false] rfl rfl (by kernel_rfl) (fun _ _ _ h => h) (Or.inl ⟨by rfl, ?_⟩) hHeld ?_ ?_
        rotate_left
        · rintro w' ⟨s0, s1, s2, s3, s4, s5, s6, s7, s8, s9, s10, s11, s12, s13, s14, s15⟩
          go_simp
          with_reducible rfl
        rotate_left
        · simp only [Act.put, List.setIfInBounds_toArray, List.set_cons_zero, List.set_cons_succ]
          rfl
        refine pure_ (i := 12) (N := (some 43)) (v := ?_) (a' := ?_) #[true, true, true, true, true, true, true, true, true, true, true, true, true, false, false, false, false] rfl rfl (by kernel_rfl) (fun _ _ _ h => h) (Or.inl ⟨by rfl, ?_⟩) ?_ ?_
        rotate_left
        · intro w'
          go_simp
          with_reducible rfl
        rotate_left
        · simp only [Act.put, List.setIfInBounds_toArray, List.set_cons_zero, List.set_cons_succ]
          rfl
        refine take_ (i := 13) (N := (some 44)) (v := ?_) (a' := ?_) #[true, true, true, true, true, true, true, true, true, true, true, true, true, true, false, false, false] rfl rfl (by kernel_rfl) (fun _ _ _ h => h) (Or.inl ⟨by rfl, ?_⟩) hHeld ?_ ?_
        rotate_left
        · rintro w' ⟨s0, s1, s2, s3, s4, s5, s6, s7, s8, s9, s10, s11, s12, s13, s14, s15⟩
          go_simp
          with_reducible rfl
        rotate_left
        · simp only [Act.put, List.setIfInBounds_toArray, List.set_cons_zero, List.set_cons_succ]
          rfl
        refine one_ (i := 14) (N := (some 45)) #[true, true, true, true, true, true, true, true, true, true, true, true, true, true, true, false, false] rfl rfl (by kernel_rfl) (by decide) (fun K hK => ?_)
        refine goes_ Try.func69 (by kernel_rfl) rfl #[.agg #[.bool sb, .slice BB ms.length cc, .slice DD es.length dd], .agg #[.bool xb, .slice VB xn.length vc, .slice WB xd.length wc, .bool yb, .slice XB yn.length xc, .slice YB yd.length yc]] (by rfl) rfl rfl (by (try simp only [List.map_toArray, List.map_cons, List.map_nil]); first | done | rfl) ?_
        refine (hMul.out W HF.out.bel).mono ?_
        rintro e W1 ⟨A2, c2, B2, d2, E2, j2, G2, l2, rfl, q1, q2, q3⟩
        refine ⟨_, rfl, ?_⟩
        replace HF := Lib.hid (HF.out.below q3)
        replace HX := Lib.hid (HX.out.below q3)
        replace HY := Lib.hid (HY.out.below q3)
        have Q1 := Lib.hid q1
        have Q2 := Lib.hid q2
        clear q1 q2 q3
        refine hK.out _ _ ⟨HF.out.cellN 0 rfl 0 rfl, HF.out.cellN 0 rfl 1 rfl, HF.out.cellN 0 rfl 2 rfl, HF.out.cellN 0 rfl 3 rfl, HF.out.cellN 0 rfl 4 rfl, HF.out.cellN 0 rfl 5 rfl, cell_below HF.out.bel i1, cell_below HF.out.bel i2, cell_below HF.out.bel i3, cell_below HF.out.bel i4, cell_below HF.out.bel h1, cell_below HF.out.bel h2, cell_below HF.out.bel h3, cell_below HF.out.bel h4, cell_below HF.out.bel h5, cell_below HF.out.bel h6⟩ (fun hHeld => ?_)
        clear hK K
        refine norm_ (a' := ?_) ?_ ?_
        rotate_left
        · show Act.put _ (some 45) _ = _
          simp only [Act.put, List.setIfInBounds_toArray, List.set_cons_zero, List.set_cons_succ]
          rfl
        refine one_ (i := 15) (N := (some 46)) #[true, true, true, true, true, true, true, true, true, true, true, true, true, true, true, true, false] rfl rfl (by kernel_rfl) (by decide) (fun K hK => ?_)
        refine goes_ Try.func68 (by kernel_rfl) rfl #[.agg #[.bool (decide (q1.num < 0)), .slice A1 (dg q1.num.natAbs).length c1, .slice B1 (dg q1.den).length d1, .bool (decide (o1.num < 0)), .slice E1 (dg o1.num.natAbs).length j1, .slice G1 (dg o1.den).length l1], .agg #[.bool (decide (p.num < 0)), .slice A2 (dg p.num.natAbs).length c2, .slice B2 (dg p.den).length d2, .bool (decide (r.num < 0)), .slice E2 (dg r.num.natAbs).length j2, .slice G2 (dg r.den).length l2]] (by rfl) rfl rfl (by (try simp only [List.map_toArray, List.map_cons, List.map_nil]); first | done | rfl) ?_
        refine (hAdd.out W1 HX.out HY.out A2 c2 B2 d2 Q1.out E2 j2 G2 l2 Q2.out).mono ?_
        rintro e W2 ⟨A3, c3, B3, d3, E3, j3, G3, l3, rfl, q1, q2, q3⟩
        refine ⟨_, rfl, ?_⟩
        replace HF := Lib.hid (HF.out.below q3)
        replace Q1 := Lib.hid q1
        replace Q2 := Lib.hid q2
        clear q1 q2 q3 HX HY
        refine hK.out _ _ ⟨HF.out.cellN 0 rfl 0 rfl, HF.out.cellN 0 rfl 1 rfl, HF.out.cellN 0 rfl 2 rfl, HF.out.cellN 0 rfl 3 rfl, HF.out.cellN 0 rfl 4 rfl, HF.out.cellN 0 rfl 5 rfl, cell_below HF.out.bel i1, cell_below HF.out.bel i2, cell_below HF.out.bel i3, cell_below HF.out.bel i4, cell_below HF.out.bel h1, cell_below HF.out.bel h2, cell_below HF.out.bel h3, cell_below HF.out.bel h4, cell_below HF.out.bel h5, cell_below HF.out.bel h6⟩ (fun hHeld => ?_)
        clear hK K
        refine norm_ (a' := ?_) ?_ ?_
        rotate_left
        · show Act.put _ (some 46) _ = _
          simp only [Act.put, List.setIfInBounds_toArray, List.set_cons_zero, List.set_cons_succ]
          rfl
        refine last_ (i := 16) (N := none) #[true, true, true, true, true, true, true, true, true, true, true, true, true, true, true, true, true] rfl rfl (by kernel_rfl) (by decide) (fun K hK => ?_)
        have hf0 := HF.out.frozenN 0 rfl 0
        have hf1 := HF.out.frozenN 0 rfl 1
        have hf2 := HF.out.frozenN 0 rfl 2
        have hf3 := HF.out.frozenN 0 rfl 3
        have hf4 := HF.out.frozenN 0 rfl 4
        have hf5 := HF.out.frozenN 0 rfl 5
        have hd0 := HF.out.cellN 0 rfl 0 rfl
        have hd1 := HF.out.cellN 0 rfl 1 rfl
        have hd2 := HF.out.cellN 0 rfl 2 rfl
        have hd3 := HF.out.cellN 0 rfl 3 rfl
        have hd4 := HF.out.cellN 0 rfl 4 rfl
        have hd5 := HF.out.cellN 0 rfl 5 rfl
        refine skip_ (w1 := ?_) (by rfl) rfl ?_ ?_
        rotate_left
        · go_simp
          rfl
        have HKU := Lib.hid (KeepU.put6 (HF.out.ownN 0 rfl) (fun y hy => by simp at hy) (y1 := .bool (decide (q.num < 0))) (y2 := .slice A3 (dg q.num.natAbs).length c3) (y3 := .slice B3 (dg q.den).length d3) (y4 := .bool (decide (o.num < 0))) (y5 := .slice E3 (dg o.num.natAbs).length j3) (fun y hy => by simp at hy) (.slice G3 (dg o.den).length l3))
        replace Q1 := Lib.hid (Q1.out.keep HKU.out)
        replace Q2 := Lib.hid (Q2.out.keep HKU.out)
        replace HF := Lib.hid (HF.out.put6 0 rfl (by omega) (by simp; omega) (.bool (decide (q.num < 0))) (.slice A3 (dg q.num.natAbs).length c3) (.slice B3 (dg q.den).length d3) (.bool (decide (o.num < 0))) (.slice E3 (dg o.num.natAbs).length j3) (.slice G3 (dg o.den).length l3))
        refine hK.out _ _ ?_
        clear hK K
        refine done_ (by kernel_rfl) ?_
        go_wp2
        go_roundg (f.length - (i + 1))
        case measure => omega
        case rel => exact ⟨i + 1, q, o, A3, c3, B3, d3, E3, j3, G3, l3, by omega, by go_num, HF.out, Q1, Q2, lq.1, lq.2, lo.1, lo.2, HQV, HOV⟩
      · have e0 := tm_out hin ((sb, ms), es)
        have HE3 : Hid (q1 = valQ (f.take (i + 1)) (fsts vs)) := by
          show _ = _
          rw [HE2.out, e0.1, ← HE.out]; exact (Rat.add_zero _).symm
        have HG3 : Hid (o1 = valQ (f.take (i + 1)) (snds vs)) := by
          show _ = _
          rw [HG2.out, e0.2, ← HG.out]; exact (Rat.add_zero _).symm
        clear e0 HE HE2 HG HG2 pm1 pm2
        by_cases h0 : 0 ≤ v
        · have h1 : ¬ v < (vs.length : Int) := fun h => hin ⟨h0, h⟩
          go_wp2
          go_roundg (f.length - (i + 1))
          case measure => omega
          case rel => exact ⟨i + 1, q1, o1, A1, c1, B1, d1, E1, j1, G1, l1, by omega, by go_num, HF, HX, HY, lx, ly, lu, lz, HE3, HG3⟩
        · go_wp2
          go_roundg (f.length - (i + 1))
          case measure => omega
          case rel => exact ⟨i + 1, q1, o1, A1, c1, B1, d1, E1, j1, G1, l1, by omega, by go_num, HF, HX, HY, lx, ly, lu, lz, HE3, HG3⟩
    · have hltz : ¬ (i : Int) < (f.length : Int) := by omega
      have HE3 : Hid (q1 = valQ f (fsts vs)) := by
        show _ = _
        rw [HE.out, List.take_of_length_le (by omega)]
      have HG3 : Hid (o1 = valQ f (snds vs)) := by
        show _ = _
        rw [HG.out, List.take_of_length_le (by omega)]
      clear HE HG
      have hc0 := HF.out.cellN 0 rfl 0 rfl
      have hc1 := HF.out.cellN 0 rfl 1 rfl
      have hc2 := HF.out.cellN 0 rfl 2 rfl
      have hc3 := HF.out.cellN 0 rfl 3 rfl
      have hc4 := HF.out.cellN 0 rfl 4 rfl
      have hc5 := HF.out.cellN 0 rfl 5 rfl
      have hf0 := HF.out.frozenN 1 rfl 0
      have hd0 := HF.out.cellN 1 rfl 0 rfl
      have hf1 := HF.out.frozenN 1 rfl 1
      have hd1 := HF.out.cellN 1 rfl 1 rfl
      have hf2 := HF.out.frozenN 1 rfl 2
      have hd2 := HF.out.cellN 1 rfl 2 rfl
      have hf3 := HF.out.frozenN 1 rfl 3
      have hd3 := HF.out.cellN 1 rfl 3 rfl
      have hf4 := HF.out.frozenN 1 rfl 4
      have hd4 := HF.out.cellN 1 rfl 4 rfl
      have hf5 := HF.out.frozenN 1 rfl 5
      have hd5 := HF.out.cellN 1 rfl 5 rfl
      have HE := Lib.hid (end_delta HF.out.tail (fun y hy => by simp at hy) (by simp) (by omega) HX.out HY.out rfl)
      generalize decide (q1.num < 0) = b at HE hc0 ⊢
      generalize decide (o1.num < 0) = b2 at HE hc3 ⊢
      go_wp2
      obtain ⟨f1, f2⟩ := HE.out
      refine post_own f2 rfl rfl rfl Try.underlying37 rfl (by kernel_rfl) ?_
      rw [← HE3.out, ← HG3.out]
      exact f1
end Go.Proofs.Ytchdoignomidjaa.F

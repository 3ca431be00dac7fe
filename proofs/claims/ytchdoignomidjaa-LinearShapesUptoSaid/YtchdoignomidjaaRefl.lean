/- The walks of the reference's layer 3, third part: positive, Add. -/
import Derived.Test.YtchdoignomidjaaRefk
set_option linter.unusedVariables false
set_option linter.unusedSimpArgs false
namespace Go.Proofs.Ytchdoignomidjaa.F
open Go.RowKit Go.Shelf Go.Proofs.YtchdoignomidjaaW.PrintLast

set_option maxHeartbeats 1000000 in
set_option maxRecDepth 100000 in
theorem r3_positive (A : Option Addr) (n c : Nat) (w : World) :
    Calls Try.prog 76 #[.slice A n c] w fun e w' => e = .returned (.agg #[.bool false, .slice A n c]) ∧ Below w.heap.size w w' := by
  have HF := Lib.hid ((Fr.refl w).box [.bool false, .slice none 0 0] 29)
  have HG := Lib.hid ((Fr.refl w).box [.bool false, .slice A n c] 29)
  have hf0 := HF.out.frozenN 0 rfl 0
  have hf1 := HF.out.frozenN 0 rfl 1
  have hd0 := HF.out.cellN 0 rfl 0 rfl
  have hd1 := HF.out.cellN 0 rfl 1 rfl
  go_enter Try.func76, Try.ntmps76
  go_wp2
  first
    | exact post_own (HG.out.ownN 0 rfl) rfl rfl rfl Try.underlying29 rfl (by kernel_rfl) ⟨rfl, HG.out.bel⟩
    | exact post_own (((HF.out.ownN 0 rfl).set 0 _).set 1 _) rfl rfl rfl Try.underlying29 rfl (by kernel_rfl) ⟨rfl, (HF.out.bel.setCell (Nat.le_refl _) _).setCell (Nat.le_refl _) _⟩

set_option maxHeartbeats 1000000 in
set_option maxRecDepth 100000 in
theorem r3_Add (s : Bool) (A : Option Addr) (c : Nat) (xs : List Int) (B : Option Addr) (d : Nat) (ys : List Int) (t : Bool) (E : Option Addr) (j : Nat) (us : List Int) (G : Option Addr) (l : Nat) (vs : List Int) (w : World) (h1 : In w A c xs) (m1 : xs.length ≤ 137438953472) (h2 : In w B d ys) (m2 : ys.length ≤ 137438953472) (h3 : In w E j us) (m3 : us.length ≤ 137438953472) (h4 : In w G l vs) (m4 : vs.length ≤ 137438953472) :
    Calls Try.prog 30 #[.agg #[.bool s, .slice A xs.length c, .slice B ys.length d], .agg #[.bool t, .slice E us.length j, .slice G vs.length l]] w fun e w' => ToldQ w (rv s xs ys + rv t us vs) e w' := by
  have hN1 := Lib.hid (fun (W : World) (hb : Below w.heap.size w W) => r3_Norm s A c xs B d ys W (h1.below hb) (by omega) (h2.below hb) (by omega))
  have hN2 := Lib.hid (fun (W : World) (hb : Below w.heap.size w W) => r3_Norm t E j us G l vs W (h3.below hb) (by omega) (h4.below hb) (by omega))
  have hl1 := rv_len s h1.lim h2.lim
  have hl2 := rv_len t h3.lim h4.lim
  generalize rv s xs ys = p at *
  generalize rv t us vs = q at *
  have hml := mulQ_len (p := p) (q := q) (n := 137438953473) (by omega) (by omega) (by omega) (by omega)
  have hM1 := Lib.hid (fun (W : World) (A1 : Option Addr) (c1 : Nat) (B1 : Option Addr) (d1 : Nat) (A2 : Option Addr) (c2 : Nat) (B2 : Option Addr) (d2 : Nat) (k1 : InQ W A1 c1 B1 d1 p) (k2 : InQ W A2 c2 B2 d2 q) => r2_Mul (decide (p.num < 0)) A1 c1 _ false B2 d2 _ W k1.num (by omega) k2.den (by omega))
  have hM2 := Lib.hid (fun (W : World) (A1 : Option Addr) (c1 : Nat) (B1 : Option Addr) (d1 : Nat) (A2 : Option Addr) (c2 : Nat) (B2 : Option Addr) (d2 : Nat) (k1 : InQ W A1 c1 B1 d1 p) (k2 : InQ W A2 c2 B2 d2 q) => r2_Mul (decide (q.num < 0)) A2 c2 _ false B1 d1 _ W k2.num (by omega) k1.den (by omega))
  have hA := Lib.hid (fun (W : World) (A1 : Option Addr) (c1 : Nat) (A2 : Option Addr) (c2 : Nat) (k1 : In W A1 c1 (dg (p.num * q.den).natAbs)) (k2 : In W A2 c2 (dg (q.num * p.den).natAbs)) => r2_Add (decide (p.num * q.den < 0)) A1 c1 _ (decide (q.num * p.den < 0)) A2 c2 _ W k1 (by omega) k2 (by omega))
  have hG := Lib.hid (fun (W : World) (A1 : Option Addr) (c1 : Nat) (B1 : Option Addr) (d1 : Nat) (k1 : In W A1 c1 (dg (p.num * q.den + q.num * p.den).natAbs)) (k2 : In W B1 d1 (dg (p.den * q.den))) => r3_Norm (decide (p.num * q.den + q.num * p.den < 0)) A1 c1 _ B1 d1 _ W k1 (by omega) k2 (by omega))
  rw [rv_of, ← rat_add] at hG
  simp only [iv_can] at hM1 hM2 hA
  simp only [V_dg, iv, Bool.false_eq_true, if_false] at hM1 hM2
  generalize p + q = r at hG ⊢
  have hD := Lib.hid (fun (W : World) (A1 : Option Addr) (c1 : Nat) (B1 : Option Addr) (d1 : Nat) (A2 : Option Addr) (c2 : Nat) (B2 : Option Addr) (d2 : Nat) (k1 : InQ W A1 c1 B1 d1 p) (k2 : InQ W A2 c2 B2 d2 q) => (r1_Mul B1 d1 _ B2 d2 _ W k1.den (by omega) k2.den (by omega)).mono fun e w' hh => Told.nat (n := p.den * q.den) (by rw [V_dg, V_dg] at hh; rw [Int.natCast_mul]; exact hh))
  clear h1 h2 h3 h4 hl1 hl2 hml
  have HF := Lib.hid ((((Fr.refl w).box [.bool s, .slice A xs.length c, .slice B ys.length d] 31).box [.bool t, .slice E us.length j, .slice G vs.length l] 31).box [.bool false, .slice none 0 0, .slice none 0 0] 31)
  have hsz : (w.alloc (.cells #[.bool s, .slice A xs.length c, .slice B ys.length d] 31)).heap.size = w.heap.size + 1 := by simp
  have hsz2 : ((w.alloc (.cells #[.bool s, .slice A xs.length c, .slice B ys.length d] 31)).alloc (.cells #[.bool t, .slice E us.length j, .slice G vs.length l] 31)).heap.size = w.heap.size + 2 := by simp
  rw [show [Value.bool s, Value.slice A xs.length c, Value.slice B ys.length d].toArray = #[Value.bool s, Value.slice A xs.length c, Value.slice B ys.length d] from rfl, hsz, show [Value.bool t, Value.slice E us.length j, Value.slice G vs.length l].toArray = #[Value.bool t, Value.slice E us.length j, Value.slice G vs.length l] from rfl, hsz2] at HF
  clear hsz hsz2
  go_enter Try.func30, Try.ntmps30
  go_wp2_with fail
  refine (hN1.out _ HF.out.bel).mono ?_
  rintro e W1 ⟨A1, c1, B1, d1, rfl, q1, q2, q3⟩
  replace HF := Lib.hid (HF.out.below q3)
  have Q1 := Lib.hid (InQ.mk q1 q2)
  clear q1 q2 q3
  have hf0 := HF.out.frozenN 2 rfl 0
  have hf1 := HF.out.frozenN 2 rfl 1
  have hf2 := HF.out.frozenN 2 rfl 2
  have hd0 := HF.out.cellN 2 rfl 0 rfl
  have hd1 := HF.out.cellN 2 rfl 1 rfl
  have hd2 := HF.out.cellN 2 rfl 2 rfl
  have ec0 := HF.out.cellN 1 rfl 0 rfl
  have ec1 := HF.out.cellN 1 rfl 1 rfl
  have ec2 := HF.out.cellN 1 rfl 2 rfl
  replace Q1 := Lib.hid (Q1.out.put3 (HF.out.ownN 2 rfl) (by simp) (a := .bool (decide (p.num < 0))) (by simp) (b := .slice A1 (dg p.num.natAbs).length c1) (by simp) (.slice B1 (dg p.den).length d1))
  replace HF := Lib.hid (HF.out.put3 2 rfl (by omega) (by simp) (.bool (decide (p.num < 0))) (.slice A1 (dg p.num.natAbs).length c1) (.slice B1 (dg p.den).length d1))
  go_wp2_with fail
  clear hf0 hf1 hf2 hd0 hd1 hd2 ec0 ec1 ec2
  generalize World.setCell _ _ _ = W0 at HF Q1 ⊢
  refine (hN2.out W0 HF.out.bel).mono ?_
  rintro e W2 ⟨A2, c2, B2, d2, rfl, q1, q2, q3⟩
  replace HF := Lib.hid (HF.out.below q3)
  replace Q1 := Lib.hid (Q1.out.below q3)
  have Q2 := Lib.hid (InQ.mk q1 q2)
  clear q1 q2 q3
  have hf0 := HF.out.frozenN 1 rfl 0
  have hf1 := HF.out.frozenN 1 rfl 1
  have hf2 := HF.out.frozenN 1 rfl 2
  have hd0 := HF.out.cellN 1 rfl 0 rfl
  have hd1 := HF.out.cellN 1 rfl 1 rfl
  have hd2 := HF.out.cellN 1 rfl 2 rfl
  replace Q1 := Lib.hid (Q1.out.put3 (HF.out.ownN 1 rfl) (by simp) (a := .bool (decide (q.num < 0))) (by simp) (b := .slice A2 (dg q.num.natAbs).length c2) (by simp) (.slice B2 (dg q.den).length d2))
  replace Q2 := Lib.hid (Q2.out.put3 (HF.out.ownN 1 rfl) (by simp) (a := .bool (decide (q.num < 0))) (by simp) (b := .slice A2 (dg q.num.natAbs).length c2) (by simp) (.slice B2 (dg q.den).length d2))
  replace HF := Lib.hid (HF.out.put3 1 rfl (by omega) (by simp) (.bool (decide (q.num < 0))) (.slice A2 (dg q.num.natAbs).length c2) (.slice B2 (dg q.den).length d2))
  go_wp2_with fail
  clear hf0 hf1 hf2 hd0 hd1 hd2
  generalize World.setCell _ _ _ = W at HF Q1 Q2 ⊢
  replace Q1 := Lib.hid (Q1.out.below (Below.drew (Below.refl _ _)))
  replace Q2 := Lib.hid (Q2.out.below (Below.drew (Below.refl _ _)))
  have HF_ := Lib.hid HF.out.drew
  clear HF
  have HF := HF_
  clear HF_
  refine start_ (n := 15) (S := fun w' => w'.cell? ⟨w.heap.size, 0, none⟩ = some (.bool (decide (p.num < 0))) ∧ w'.cell? ⟨w.heap.size, 1, none⟩ = some (.slice A1 (dg p.num.natAbs).length c1) ∧ w'.cell? ⟨w.heap.size, 2, none⟩ = some (.slice B1 (dg p.den).length d1) ∧ w'.cell? ⟨w.heap.size + 1, 0, none⟩ = some (.bool (decide (q.num < 0))) ∧ w'.cell? ⟨w.heap.size + 1, 1, none⟩ = some (.slice A2 (dg q.num.natAbs).length c2) ∧ w'.cell? ⟨w.heap.size + 1, 2, none⟩ = some (.slice B2 (dg q.den).length d2)) (ds := []) #[false, false, false, false, false, false, false, false, false, false, false, false, false, false, false] (by kernel_rfl) rfl rfl ⟨HF.out.cellN 2 rfl 0 rfl, HF.out.cellN 2 rfl 1 rfl, HF.out.cellN 2 rfl 2 rfl, HF.out.cellN 1 rfl 0 rfl, HF.out.cellN 1 rfl 1 rfl, HF.out.cellN 1 rfl 2 rfl⟩ (fun hHeld => ?_)
  generalize World.drew _ = W at *
  refine pure_ (i := 0) (N := (some 10)) (v := ?_) (a' := ?_) #[true, false, false, false, false, false, false, false, false, false, false, false, false, false, false] rfl rfl (by kernel_rfl) (fun _ _ _ h => h) (Or.inl ⟨by rfl, ?_⟩) ?_ ?_
  rotate_left
  · intro w'
    go_simp
    with_reducible rfl
  rotate_left
  · simp only [Act.put, List.setIfInBounds_toArray, List.set_cons_zero, List.set_cons_succ]
    rfl
  refine pure_ (i := 2) (N := (some 12)) (v := ?_) (a' := ?_) #[true, false, true, false, false, false, false, false, false, false, false, false, false, false, false] rfl rfl (by kernel_rfl) (fun _ _ _ h => h) (Or.inl ⟨by rfl, ?_⟩) ?_ ?_
  rotate_left
  · intro w'
    go_simp
    with_reducible rfl
  rotate_left
  · simp only [Act.put, List.setIfInBounds_toArray, List.set_cons_zero, List.set_cons_succ]
    rfl
  refine pure_ (i := 6) (N := (some 16)) (v := ?_) (a' := ?_) #[true, false, true, false, false, false, true, false, false, false, false, false, false, false, false] rfl rfl (by kernel_rfl) (fun _ _ _ h => h) (Or.inl ⟨by rfl, ?_⟩) ?_ ?_
  rotate_left
  · intro w'
    go_simp
    with_reducible rfl
  rotate_left
  · simp only [Act.put, List.setIfInBounds_toArray, List.set_cons_zero, List.set_cons_succ]
    rfl
  refine pure_ (i := 8) (N := (some 18)) (v := ?_) (a' := ?_) #[true, false, true, false, false, false, true, false, true, false, false, false, false, false, false] rfl rfl (by kernel_rfl) (fun _ _ _ h => h) (Or.inl ⟨by rfl, ?_⟩) ?_ ?_
  rotate_left
  · intro w'
    go_simp
    with_reducible rfl
  rotate_left
  · simp only [Act.put, List.setIfInBounds_toArray, List.set_cons_zero, List.set_cons_succ]
    rfl
  refine take_ (i := 1) (N := (some 11)) (v := ?_) (a' := ?_) #[true, true, true, false, false, false, true, false, true, false, false, false, false, false, false] rfl rfl (by kernel_rfl) (fun _ _ _ h => h) (Or.inl ⟨by rfl, ?_⟩) hHeld ?_ ?_
  rotate_left
  · rintro w' ⟨s0, s1, s2, s3, s4, s5⟩
    go_simp
    with_reducible rfl
  rotate_left
  · simp only [Act.put, List.setIfInBounds_toArray, List.set_cons_zero, List.set_cons_succ]
    rfl
  refine take_ (i := 3) (N := (some 13)) (v := ?_) (a' := ?_) #[true, true, true, true, false, false, true, false, true, false, false, false, false, false, false] rfl rfl (by kernel_rfl) (fun _ _ _ h => h) (Or.inl ⟨by rfl, ?_⟩) hHeld ?_ ?_
  rotate_left
  · rintro w' ⟨s0, s1, s2, s3, s4, s5⟩
    go_simp
    with_reducible rfl
  rotate_left
  · simp only [Act.put, List.setIfInBounds_toArray, List.set_cons_zero, List.set_cons_succ]
    rfl
  refine take_ (i := 7) (N := (some 17)) (v := ?_) (a' := ?_) #[true, true, true, true, false, false, true, true, true, false, false, false, false, false, false] rfl rfl (by kernel_rfl) (fun _ _ _ h => h) (Or.inl ⟨by rfl, ?_⟩) hHeld ?_ ?_
  rotate_left
  · rintro w' ⟨s0, s1, s2, s3, s4, s5⟩
    go_simp
    with_reducible rfl
  rotate_left
  · simp only [Act.put, List.setIfInBounds_toArray, List.set_cons_zero, List.set_cons_succ]
    rfl
  refine take_ (i := 9) (N := (some 19)) (v := ?_) (a' := ?_) #[true, true, true, true, false, false, true, true, true, true, false, false, false, false, false] rfl rfl (by kernel_rfl) (fun _ _ _ h => h) (Or.inl ⟨by rfl, ?_⟩) hHeld ?_ ?_
  rotate_left
  · rintro w' ⟨s0, s1, s2, s3, s4, s5⟩
    go_simp
    with_reducible rfl
  rotate_left
  · simp only [Act.put, List.setIfInBounds_toArray, List.set_cons_zero, List.set_cons_succ]
    rfl
  refine join_ (σ := Nat × (Option Addr × Nat) × (Option Addr × Nat) × Option Addr × Nat) 0 #[true, true, true, true, true, true, true, true, true, true, true, true, true, true, true] (fun ⟨g, ⟨A3, c3⟩, ⟨A4, c4⟩, A5, c5⟩ => [(14, .agg #[.bool false, .slice B2 (dg q.den).length d2]), (20, .agg #[.bool false, .slice B1 (dg p.den).length d1]), (15, .agg #[.bool (decide (p.num * q.den < 0)), .slice A3 (dg (p.num * q.den).natAbs).length c3]), (21, .agg #[.bool (decide (q.num * p.den < 0)), .slice A4 (dg (q.num * p.den).natAbs).length c4]), (22, .agg #[.bool (decide (p.num * q.den + q.num * p.den < 0)), .slice A5 (dg (p.num * q.den + q.num * p.den).natAbs).length c5]), (5, .pointer (some ⟨g, 0, none⟩))]) (fun ⟨g, ⟨A3, c3⟩, ⟨A4, c4⟩, A5, c5⟩ W' => w.heap.size + 3 ≤ g ∧ Fr w W' [(w.heap.size + 2, [.bool false, .slice none 0 0, .slice none 0 0]), (w.heap.size + 1, [.bool (decide (q.num < 0)), .slice A2 (dg q.num.natAbs).length c2, .slice B2 (dg q.den).length d2]), (w.heap.size, [.bool (decide (p.num < 0)), .slice A1 (dg p.num.natAbs).length c1, .slice B1 (dg p.den).length d1]), (g, [.bool (decide (p.num * q.den + q.num * p.den < 0)), .slice A5 (dg (p.num * q.den + q.num * p.den).natAbs).length c5])] ∧ InQ W' A1 c1 B1 d1 p ∧ InQ W' A2 c2 B2 d2 q ∧ In W' A5 c5 (dg (p.num * q.den + q.num * p.den).natAbs)) ?hc ?hm
  case hm =>
    intro hcont
    refine two_ (i := 4) (j := 13) (Ni := (some 14)) (Nj := (some 5)) #[true, true, true, true, true, false, true, true, true, true, false, false, false, false, false] #[true, true, true, true, false, false, true, true, true, true, false, false, false, true, false] rfl rfl rfl rfl (by kernel_rfl) (by decide) (by decide) (fun K hK => ?_) (fun K hK => ?_)
    · refine goes_ Try.func76 (by kernel_rfl) rfl #[.slice B2 (dg q.den).length d2] (by rfl) rfl rfl (by (try simp only [List.map_toArray, List.map_cons, List.map_nil]); first | done | rfl) ?_
      refine (r3_positive B2 (dg q.den).length d2 W).mono ?_
      rintro e W1 ⟨rfl, q3⟩
      refine ⟨_, rfl, ?_⟩
      replace HF := Lib.hid (HF.out.below q3)
      replace Q1 := Lib.hid (Q1.out.below q3)
      replace Q2 := Lib.hid (Q2.out.below q3)
      try replace Q3 := Lib.hid (Q3.out.below q3)
      clear q3
      refine hK.out _ _ ⟨HF.out.cellN 2 rfl 0 rfl, HF.out.cellN 2 rfl 1 rfl, HF.out.cellN 2 rfl 2 rfl, HF.out.cellN 1 rfl 0 rfl, HF.out.cellN 1 rfl 1 rfl, HF.out.cellN 1 rfl 2 rfl⟩ (fun hHeld => ?_)
      clear hK K
      refine norm_ (a' := ?_) ?_ ?_
      rotate_left
      · show Act.put _ (some 14) _ = _
        simp only [Act.put, List.setIfInBounds_toArray, List.set_cons_zero, List.set_cons_succ]
        rfl
      refine two_ (i := 5) (j := 13) (Ni := (some 15)) (Nj := (some 5)) #[true, true, true, true, true, true, true, true, true, true, false, false, false, false, false] #[true, true, true, true, true, false, true, true, true, true, false, false, false, true, false] rfl rfl rfl rfl (by kernel_rfl) (by decide) (by decide) (fun K hK => ?_) (fun K hK => ?_)
      · refine goes_ Try.func75 (by kernel_rfl) rfl #[.agg #[.bool (decide (p.num < 0)), .slice A1 (dg p.num.natAbs).length c1], .agg #[.bool false, .slice B2 (dg q.den).length d2]] (by rfl) rfl rfl (by (try simp only [List.map_toArray, List.map_cons, List.map_nil]); first | done | rfl) ?_
        refine (hM1.out W1 A1 c1 B1 d1 A2 c2 B2 d2 Q1.out Q2.out).mono ?_
        rintro e W2 ⟨A3, c3, rfl, q1, q2, q3⟩
        refine ⟨_, rfl, ?_⟩
        replace HF := Lib.hid (HF.out.below q3)
        replace Q1 := Lib.hid (Q1.out.below q3)
        replace Q2 := Lib.hid (Q2.out.below q3)
        have Q3 := Lib.hid (In.dg q2 q1)
        clear q1 q2 q3
        refine hK.out _ _ ⟨HF.out.cellN 2 rfl 0 rfl, HF.out.cellN 2 rfl 1 rfl, HF.out.cellN 2 rfl 2 rfl, HF.out.cellN 1 rfl 0 rfl, HF.out.cellN 1 rfl 1 rfl, HF.out.cellN 1 rfl 2 rfl⟩ (fun hHeld => ?_)
        clear hK K
        refine norm_ (a' := ?_) ?_ ?_
        rotate_left
        · show Act.put _ (some 15) _ = _
          simp only [Act.put, List.setIfInBounds_toArray, List.set_cons_zero, List.set_cons_succ]
          rfl
        refine two_ (i := 10) (j := 13) (Ni := (some 20)) (Nj := (some 5)) #[true, true, true, true, true, true, true, true, true, true, true, false, false, false, false] #[true, true, true, true, true, true, true, true, true, true, false, false, false, true, false] rfl rfl rfl rfl (by kernel_rfl) (by decide) (by decide) (fun K hK => ?_) (fun K hK => ?_)
        · refine goes_ Try.func76 (by kernel_rfl) rfl #[.slice B1 (dg p.den).length d1] (by rfl) rfl rfl (by (try simp only [List.map_toArray, List.map_cons, List.map_nil]); first | done | rfl) ?_
          refine (r3_positive B1 (dg p.den).length d1 W2).mono ?_
          rintro e W3 ⟨rfl, q3⟩
          refine ⟨_, rfl, ?_⟩
          replace HF := Lib.hid (HF.out.below q3)
          replace Q1 := Lib.hid (Q1.out.below q3)
          replace Q2 := Lib.hid (Q2.out.below q3)
          try replace Q3 := Lib.hid (Q3.out.below q3)
          clear q3
          refine hK.out _ _ ⟨HF.out.cellN 2 rfl 0 rfl, HF.out.cellN 2 rfl 1 rfl, HF.out.cellN 2 rfl 2 rfl, HF.out.cellN 1 rfl 0 rfl, HF.out.cellN 1 rfl 1 rfl, HF.out.cellN 1 rfl 2 rfl⟩ (fun hHeld => ?_)
          clear hK K
          refine norm_ (a' := ?_) ?_ ?_
          rotate_left
          · show Act.put _ (some 20) _ = _
            simp only [Act.put, List.setIfInBounds_toArray, List.set_cons_zero, List.set_cons_succ]
            rfl
          refine two_ (i := 11) (j := 13) (Ni := (some 21)) (Nj := (some 5)) #[true, true, true, true, true, true, true, true, true, true, true, true, false, false, false] #[true, true, true, true, true, true, true, true, true, true, true, false, false, true, false] rfl rfl rfl rfl (by kernel_rfl) (by decide) (by decide) (fun K hK => ?_) (fun K hK => ?_)
          · refine goes_ Try.func75 (by kernel_rfl) rfl #[.agg #[.bool (decide (q.num < 0)), .slice A2 (dg q.num.natAbs).length c2], .agg #[.bool false, .slice B1 (dg p.den).length d1]] (by rfl) rfl rfl (by (try simp only [List.map_toArray, List.map_cons, List.map_nil]); first | done | rfl) ?_
            refine (hM2.out W3 A1 c1 B1 d1 A2 c2 B2 d2 Q1.out Q2.out).mono ?_
            rintro e W4 ⟨A4, c4, rfl, q1, q2, q3⟩
            refine ⟨_, rfl, ?_⟩
            replace HF := Lib.hid (HF.out.below q3)
            replace Q1 := Lib.hid (Q1.out.below q3)
            replace Q2 := Lib.hid (Q2.out.below q3)
            replace Q3 := Lib.hid (Q3.out.below q3)
            have Q4 := Lib.hid (In.dg q2 q1)
            clear q1 q2 q3
            refine hK.out _ _ ⟨HF.out.cellN 2 rfl 0 rfl, HF.out.cellN 2 rfl 1 rfl, HF.out.cellN 2 rfl 2 rfl, HF.out.cellN 1 rfl 0 rfl, HF.out.cellN 1 rfl 1 rfl, HF.out.cellN 1 rfl 2 rfl⟩ (fun hHeld => ?_)
            clear hK K
            refine norm_ (a' := ?_) ?_ ?_
            rotate_left
            · show Act.put _ (some 21) _ = _
              simp only [Act.put, List.setIfInBounds_toArray, List.set_cons_zero, List.set_cons_succ]
              rfl
            refine two_ (i := 12) (j := 13) (Ni := (some 22)) (Nj := (some 5)) #[true, true, true, true, true, true, true, true, true, true, true, true, true, false, false] #[true, true, true, true, true, true, true, true, true, true, true, true, false, true, false] rfl rfl rfl rfl (by kernel_rfl) (by decide) (by decide) (fun K hK => ?_) (fun K hK => ?_)
            · refine goes_ Try.func74 (by kernel_rfl) rfl #[.agg #[.bool (decide (p.num * q.den < 0)), .slice A3 (dg (p.num * q.den).natAbs).length c3], .agg #[.bool (decide (q.num * p.den < 0)), .slice A4 (dg (q.num * p.den).natAbs).length c4]] (by rfl) rfl rfl (by (try simp only [List.map_toArray, List.map_cons, List.map_nil]); first | done | rfl) ?_
              refine (hA.out W4 A3 c3 A4 c4 Q3.out Q4.out).mono ?_
              rintro e W5 ⟨A5, c5, rfl, q1, q2, q3⟩
              refine ⟨_, rfl, ?_⟩
              replace HF := Lib.hid (HF.out.below q3)
              replace Q1 := Lib.hid (Q1.out.below q3)
              replace Q2 := Lib.hid (Q2.out.below q3)
              have Q5 := Lib.hid (In.dg q2 q1)
              clear q1 q2 q3 Q3 Q4
              refine hK.out _ _ ⟨HF.out.cellN 2 rfl 0 rfl, HF.out.cellN 2 rfl 1 rfl, HF.out.cellN 2 rfl 2 rfl, HF.out.cellN 1 rfl 0 rfl, HF.out.cellN 1 rfl 1 rfl, HF.out.cellN 1 rfl 2 rfl⟩ (fun hHeld => ?_)
              clear hK K
              refine norm_ (a' := ?_) ?_ ?_
              rotate_left
              · show Act.put _ (some 22) _ = _
                simp only [Act.put, List.setIfInBounds_toArray, List.set_cons_zero, List.set_cons_succ]
                rfl
              refine one_ (i := 13) (N := (some 5)) #[true, true, true, true, true, true, true, true, true, true, true, true, true, true, false] rfl rfl (by kernel_rfl) (by decide) (fun K hK => ?_)
              refine value_ (v := ?_) (w1 := ?_) (by rfl) rfl ?_ ?_
              rotate_left
              rotate_left
              · go_simp
                first | rfl | (refine ⟨?_, ?_⟩ <;> rfl)
              have hgw : w.heap.size + 3 ≤ W5.heap.size := by have := HF.out.ltN 0 rfl; omega
              replace Q1 := Lib.hid (Q1.out.below ((Below.refl _ W5).alloc (Nat.le_refl _) (.cells #[.bool false, .slice none 0 0] 29)))
              replace Q2 := Lib.hid (Q2.out.below ((Below.refl _ W5).alloc (Nat.le_refl _) (.cells #[.bool false, .slice none 0 0] 29)))
              try replace Q3 := Lib.hid (Q3.out.below ((Below.refl _ W5).alloc (Nat.le_refl _) (.cells #[.bool false, .slice none 0 0] 29)))
              try replace Q4 := Lib.hid (Q4.out.below ((Below.refl _ W5).alloc (Nat.le_refl _) (.cells #[.bool false, .slice none 0 0] 29)))
              try replace Q5 := Lib.hid (Q5.out.below ((Below.refl _ W5).alloc (Nat.le_refl _) (.cells #[.bool false, .slice none 0 0] 29)))
              replace HF := Lib.hid (HF.out.boxEnd [.bool false, .slice none 0 0] 29)
              refine hK.out _ _ ⟨HF.out.cellN 2 rfl 0 rfl, HF.out.cellN 2 rfl 1 rfl, HF.out.cellN 2 rfl 2 rfl, HF.out.cellN 1 rfl 0 rfl, HF.out.cellN 1 rfl 1 rfl, HF.out.cellN 1 rfl 2 rfl⟩ (fun hHeld => ?_)
              clear hK K
              refine norm_ (a' := ?_) ?_ ?_
              rotate_left
              · show Act.put _ (some 5) _ = _
                simp only [Act.put, List.setIfInBounds_toArray, List.set_cons_zero, List.set_cons_succ]
                rfl
              obtain ⟨g, hg⟩ : ∃ g, g = W5.heap.size := ⟨_, rfl⟩
              obtain ⟨W6, hV⟩ : ∃ X, X = W5.alloc (.cells #[.bool false, .slice none 0 0] 29) := ⟨_, rfl⟩
              rw [← hg] at HF hgw ⊢
              rw [← hV] at HF Q1 Q2 ⊢
              try rw [← hV] at Q3
              try rw [← hV] at Q4
              try rw [← hV] at Q5
              clear hg hV
              refine one_ (i := 14) (N := none) #[true, true, true, true, true, true, true, true, true, true, true, true, true, true, true] rfl rfl (by kernel_rfl) (by decide) (fun K hK => ?_)
              have hf0 := HF.out.frozenN 3 rfl 0
              have hf1 := HF.out.frozenN 3 rfl 1
              have hd0 := HF.out.cellN 3 rfl 0 rfl
              have hd1 := HF.out.cellN 3 rfl 1 rfl
              refine skip_ (w1 := ?_) (by rfl) rfl ?_ ?_
              rotate_left
              · go_simp
                rfl
              replace Q1 := Lib.hid (Q1.out.put2 (HF.out.ownN 3 rfl) (by simp) (a := .bool (decide (p.num * q.den + q.num * p.den < 0))) (by simp) (.slice A5 (dg (p.num * q.den + q.num * p.den).natAbs).length c5))
              replace Q2 := Lib.hid (Q2.out.put2 (HF.out.ownN 3 rfl) (by simp) (a := .bool (decide (p.num * q.den + q.num * p.den < 0))) (by simp) (.slice A5 (dg (p.num * q.den + q.num * p.den).natAbs).length c5))
              replace Q5 := Lib.hid (Q5.out.put2 (HF.out.ownN 3 rfl) (by simp) (a := .bool (decide (p.num * q.den + q.num * p.den < 0))) (by simp) (.slice A5 (dg (p.num * q.den + q.num * p.den).natAbs).length c5))
              replace HF := Lib.hid (HF.out.put2 3 rfl (by omega) (by simp; omega) (.bool (decide (p.num * q.den + q.num * p.den < 0))) (.slice A5 (dg (p.num * q.den + q.num * p.den).natAbs).length c5))
              refine hK.out _ _ ⟨HF.out.cellN 2 rfl 0 rfl, HF.out.cellN 2 rfl 1 rfl, HF.out.cellN 2 rfl 2 rfl, HF.out.cellN 1 rfl 0 rfl, HF.out.cellN 1 rfl 1 rfl, HF.out.cellN 1 rfl 2 rfl⟩ (fun hHeld => ?_)
              clear hK K
              exact hcont (g, (A3, c3), (A4, c4), A5, c5) _ ⟨hgw, HF.out, Q1.out, Q2.out, Q5.out⟩
            · refine value_ (v := ?_) (w1 := ?_) (by rfl) rfl ?_ ?_
              rotate_left
              rotate_left
              · go_simp
                first | rfl | (refine ⟨?_, ?_⟩ <;> rfl)
              have hgw : w.heap.size + 3 ≤ W4.heap.size := by have := HF.out.ltN 0 rfl; omega
              replace Q1 := Lib.hid (Q1.out.below ((Below.refl _ W4).alloc (Nat.le_refl _) (.cells #[.bool false, .slice none 0 0] 29)))
              replace Q2 := Lib.hid (Q2.out.below ((Below.refl _ W4).alloc (Nat.le_refl _) (.cells #[.bool false, .slice none 0 0] 29)))
              try replace Q3 := Lib.hid (Q3.out.below ((Below.refl _ W4).alloc (Nat.le_refl _) (.cells #[.bool false, .slice none 0 0] 29)))
              try replace Q4 := Lib.hid (Q4.out.below ((Below.refl _ W4).alloc (Nat.le_refl _) (.cells #[.bool false, .slice none 0 0] 29)))
              try replace Q5 := Lib.hid (Q5.out.below ((Below.refl _ W4).alloc (Nat.le_refl _) (.cells #[.bool false, .slice none 0 0] 29)))
              replace HF := Lib.hid (HF.out.boxEnd [.bool false, .slice none 0 0] 29)
              refine hK.out _ _ ⟨HF.out.cellN 2 rfl 0 rfl, HF.out.cellN 2 rfl 1 rfl, HF.out.cellN 2 rfl 2 rfl, HF.out.cellN 1 rfl 0 rfl, HF.out.cellN 1 rfl 1 rfl, HF.out.cellN 1 rfl 2 rfl⟩ (fun hHeld => ?_)
              clear hK K
              refine norm_ (a' := ?_) ?_ ?_
              rotate_left
              · show Act.put _ (some 5) _ = _
                simp only [Act.put, List.setIfInBounds_toArray, List.set_cons_zero, List.set_cons_succ]
                rfl
              obtain ⟨g, hg⟩ : ∃ g, g = W4.heap.size := ⟨_, rfl⟩
              obtain ⟨W7, hV⟩ : ∃ X, X = W4.alloc (.cells #[.bool false, .slice none 0 0] 29) := ⟨_, rfl⟩
              rw [← hg] at HF hgw ⊢
              rw [← hV] at HF Q1 Q2 ⊢
              try rw [← hV] at Q3
              try rw [← hV] at Q4
              try rw [← hV] at Q5
              clear hg hV
              refine one_ (i := 12) (N := (some 22)) #[true, true, true, true, true, true, true, true, true, true, true, true, true, true, false] rfl rfl (by kernel_rfl) (by decide) (fun K hK => ?_)
              refine goes_ Try.func74 (by kernel_rfl) rfl #[.agg #[.bool (decide (p.num * q.den < 0)), .slice A3 (dg (p.num * q.den).natAbs).length c3], .agg #[.bool (decide (q.num * p.den < 0)), .slice A4 (dg (q.num * p.den).natAbs).length c4]] (by rfl) rfl rfl (by (try simp only [List.map_toArray, List.map_cons, List.map_nil]); first | done | rfl) ?_
              refine (hA.out W7 A3 c3 A4 c4 Q3.out Q4.out).mono ?_
              rintro e W8 ⟨A5, c5, rfl, q1, q2, q3⟩
              refine ⟨_, rfl, ?_⟩
              replace HF := Lib.hid (HF.out.below q3)
              replace Q1 := Lib.hid (Q1.out.below q3)
              replace Q2 := Lib.hid (Q2.out.below q3)
              have Q5 := Lib.hid (In.dg q2 q1)
              clear q1 q2 q3 Q3 Q4
              refine hK.out _ _ ⟨HF.out.cellN 2 rfl 0 rfl, HF.out.cellN 2 rfl 1 rfl, HF.out.cellN 2 rfl 2 rfl, HF.out.cellN 1 rfl 0 rfl, HF.out.cellN 1 rfl 1 rfl, HF.out.cellN 1 rfl 2 rfl⟩ (fun hHeld => ?_)
              clear hK K
              refine norm_ (a' := ?_) ?_ ?_
              rotate_left
              · show Act.put _ (some 22) _ = _
                simp only [Act.put, List.setIfInBounds_toArray, List.set_cons_zero, List.set_cons_succ]
                rfl
              refine one_ (i := 14) (N := none) #[true, true, true, true, true, true, true, true, true, true, true, true, true, true, true] rfl rfl (by kernel_rfl) (by decide) (fun K hK => ?_)
              have hf0 := HF.out.frozenN 3 rfl 0
              have hf1 := HF.out.frozenN 3 rfl 1
              have hd0 := HF.out.cellN 3 rfl 0 rfl
              have hd1 := HF.out.cellN 3 rfl 1 rfl
              refine skip_ (w1 := ?_) (by rfl) rfl ?_ ?_
              rotate_left
              · go_simp
                rfl
              replace Q1 := Lib.hid (Q1.out.put2 (HF.out.ownN 3 rfl) (by simp) (a := .bool (decide (p.num * q.den + q.num * p.den < 0))) (by simp) (.slice A5 (dg (p.num * q.den + q.num * p.den).natAbs).length c5))
              replace Q2 := Lib.hid (Q2.out.put2 (HF.out.ownN 3 rfl) (by simp) (a := .bool (decide (p.num * q.den + q.num * p.den < 0))) (by simp) (.slice A5 (dg (p.num * q.den + q.num * p.den).natAbs).length c5))
              replace Q5 := Lib.hid (Q5.out.put2 (HF.out.ownN 3 rfl) (by simp) (a := .bool (decide (p.num * q.den + q.num * p.den < 0))) (by simp) (.slice A5 (dg (p.num * q.den + q.num * p.den).natAbs).length c5))
              replace HF := Lib.hid (HF.out.put2 3 rfl (by omega) (by simp; omega) (.bool (decide (p.num * q.den + q.num * p.den < 0))) (.slice A5 (dg (p.num * q.den + q.num * p.den).natAbs).length c5))
              refine hK.out _ _ ⟨HF.out.cellN 2 rfl 0 rfl, HF.out.cellN 2 rfl 1 rfl, HF.out.cellN 2 rfl 2 rfl, HF.out.cellN 1 rfl 0 rfl, HF.out.cellN 1 rfl 1 rfl, HF.out.cellN 1 rfl 2 rfl⟩ (fun hHeld => ?_)
              clear hK K
              exact hcont (g, (A3, c3), (A4, c4), A5, c5) _ ⟨hgw, HF.out, Q1.out, Q2.out, Q5.out⟩
          · refine value_ (v := ?_) (w1 := ?_) (by rfl) rfl ?_ ?_
            rotate_left
            rotate_left
            · go_simp
              first | rfl | (refine ⟨?_, ?_⟩ <;> rfl)
            have hgw : w.heap.size + 3 ≤ W3.heap.size := by have := HF.out.ltN 0 rfl; omega
            replace Q1 := Lib.hid (Q1.out.below ((Below.refl _ W3).alloc (Nat.le_refl _) (.cells #[.bool false, .slice none 0 0] 29)))
            replace Q2 := Lib.hid (Q2.out.below ((Below.refl _ W3).alloc (Nat.le_refl _) (.cells #[.bool false, .slice none 0 0] 29)))
            try replace Q3 := Lib.hid (Q3.out.below ((Below.refl _ W3).alloc (Nat.le_refl _) (.cells #[.bool false, .slice none 0 0] 29)))
            try replace Q4 := Lib.hid (Q4.out.below ((Below.refl _ W3).alloc (Nat.le_refl _) (.cells #[.bool false, .slice none 0 0] 29)))
            try replace Q5 := Lib.hid (Q5.out.below ((Below.refl _ W3).alloc (Nat.le_refl _) (.cells #[.bool false, .slice none 0 0] 29)))
            replace HF := Lib.hid (HF.out.boxEnd [.bool false, .slice none 0 0] 29)
            refine hK.out _ _ ⟨HF.out.cellN 2 rfl 0 rfl, HF.out.cellN 2 rfl 1 rfl, HF.out.cellN 2 rfl 2 rfl, HF.out.cellN 1 rfl 0 rfl, HF.out.cellN 1 rfl 1 rfl, HF.out.cellN 1 rfl 2 rfl⟩ (fun hHeld => ?_)
            clear hK K
            refine norm_ (a' := ?_) ?_ ?_
            rotate_left
            · show Act.put _ (some 5) _ = _
              simp only [Act.put, List.setIfInBounds_toArray, List.set_cons_zero, List.set_cons_succ]
              rfl
            obtain ⟨g, hg⟩ : ∃ g, g = W3.heap.size := ⟨_, rfl⟩
            obtain ⟨W9, hV⟩ : ∃ X, X = W3.alloc (.cells #[.bool false, .slice none 0 0] 29) := ⟨_, rfl⟩
            rw [← hg] at HF hgw ⊢
            rw [← hV] at HF Q1 Q2 ⊢
            try rw [← hV] at Q3
            try rw [← hV] at Q4
            try rw [← hV] at Q5
            clear hg hV
            refine one_ (i := 11) (N := (some 21)) #[true, true, true, true, true, true, true, true, true, true, true, true, false, true, false] rfl rfl (by kernel_rfl) (by decide) (fun K hK => ?_)
            refine goes_ Try.func75 (by kernel_rfl) rfl #[.agg #[.bool (decide (q.num < 0)), .slice A2 (dg q.num.natAbs).length c2], .agg #[.bool false, .slice B1 (dg p.den).length d1]] (by rfl) rfl rfl (by (try simp only [List.map_toArray, List.map_cons, List.map_nil]); first | done | rfl) ?_
            refine (hM2.out W9 A1 c1 B1 d1 A2 c2 B2 d2 Q1.out Q2.out).mono ?_
            rintro e W10 ⟨A4, c4, rfl, q1, q2, q3⟩
            refine ⟨_, rfl, ?_⟩
            replace HF := Lib.hid (HF.out.below q3)
            replace Q1 := Lib.hid (Q1.out.below q3)
            replace Q2 := Lib.hid (Q2.out.below q3)
            replace Q3 := Lib.hid (Q3.out.below q3)
            have Q4 := Lib.hid (In.dg q2 q1)
            clear q1 q2 q3
            refine hK.out _ _ ⟨HF.out.cellN 2 rfl 0 rfl, HF.out.cellN 2 rfl 1 rfl, HF.out.cellN 2 rfl 2 rfl, HF.out.cellN 1 rfl 0 rfl, HF.out.cellN 1 rfl 1 rfl, HF.out.cellN 1 rfl 2 rfl⟩ (fun hHeld => ?_)
            clear hK K
            refine norm_ (a' := ?_) ?_ ?_
            rotate_left
            · show Act.put _ (some 21) _ = _
              simp only [Act.put, List.setIfInBounds_toArray, List.set_cons_zero, List.set_cons_succ]
              rfl
            refine one_ (i := 12) (N := (some 22)) #[true, true, true, true, true, true, true, true, true, true, true, true, true, true, false] rfl rfl (by kernel_rfl) (by decide) (fun K hK => ?_)
            refine goes_ Try.func74 (by kernel_rfl) rfl #[.agg #[.bool (decide (p.num * q.den < 0)), .slice A3 (dg (p.num * q.den).natAbs).length c3], .agg #[.bool (decide (q.num * p.den < 0)), .slice A4 (dg (q.num * p.den).natAbs).length c4]] (by rfl) rfl rfl (by (try simp only [List.map_toArray, List.map_cons, List.map_nil]); first | done | rfl) ?_
            refine (hA.out W10 A3 c3 A4 c4 Q3.out Q4.out).mono ?_
            rintro e W11 ⟨A5, c5, rfl, q1, q2, q3⟩
            refine ⟨_, rfl, ?_⟩
            replace HF := Lib.hid (HF.out.below q3)
            replace Q1 := Lib.hid (Q1.out.below q3)
            replace Q2 := Lib.hid (Q2.out.below q3)
            have Q5 := Lib.hid (In.dg q2 q1)
            clear q1 q2 q3 Q3 Q4
            refine hK.out _ _ ⟨HF.out.cellN 2 rfl 0 rfl, HF.out.cellN 2 rfl 1 rfl, HF.out.cellN 2 rfl 2 rfl, HF.out.cellN 1 rfl 0 rfl, HF.out.cellN 1 rfl 1 rfl, HF.out.cellN 1 rfl 2 rfl⟩ (fun hHeld => ?_)
            clear hK K
            refine norm_ (a' := ?_) ?_ ?_
            rotate_left
            · show Act.put _ (some 22) _ = _
              simp only [Act.put, List.setIfInBounds_toArray, List.set_cons_zero, List.set_cons_succ]
              rfl
            refine one_ (i := 14) (N := none) #[true, true, true, true, true, true, true, true, true, true, true, true, true, true, true] rfl rfl (by kernel_rfl) (by decide) (fun K hK => ?_)
            have hf0 := HF.out.frozenN 3 rfl 0
            have hf1 := HF.out.frozenN 3 rfl 1
            have hd0 := HF.out.cellN 3 rfl 0 rfl
            have hd1 := HF.out.cellN 3 rfl 1 rfl
            refine skip_ (w1 := ?_) (by rfl) rfl ?_ ?_
            rotate_left
            · go_simp
              rfl
            replace Q1 := Lib.hid (Q1.out.put2 (HF.out.ownN 3 rfl) (by simp) (a := .bool (decide (p.num * q.den + q.num * p.den < 0))) (by simp) (.slice A5 (dg (p.num * q.den + q.num * p.den).natAbs).length c5))
            replace Q2 := Lib.hid (Q2.out.put2 (HF.out.ownN 3 rfl) (by simp) (a := .bool (decide (p.num * q.den + q.num * p.den < 0))) (by simp) (.slice A5 (dg (p.num * q.den + q.num * p.den).natAbs).length c5))
            replace Q5 := Lib.hid (Q5.out.put2 (HF.out.ownN 3 rfl) (by simp) (a := .bool (decide (p.num * q.den + q.num * p.den < 0))) (by simp) (.slice A5 (dg (p.num * q.den + q.num * p.den).natAbs).length c5))
            replace HF := Lib.hid (HF.out.put2 3 rfl (by omega) (by simp; omega) (.bool (decide (p.num * q.den + q.num * p.den < 0))) (.slice A5 (dg (p.num * q.den + q.num * p.den).natAbs).length c5))
            refine hK.out _ _ ⟨HF.out.cellN 2 rfl 0 rfl, HF.out.cellN 2 rfl 1 rfl, HF.out.cellN 2 rfl 2 rfl, HF.out.cellN 1 rfl 0 rfl, HF.out.cellN 1 rfl 1 rfl, HF.out.cellN 1 rfl 2 rfl⟩ (fun hHeld => ?_)
            clear hK K
            exact hcont (g, (A3, c3), (A4, c4), A5, c5) _ ⟨hgw, HF.out, Q1.out, Q2.out, Q5.out⟩
        · refine value_ (v := ?_) (w1 := ?_) (by rfl) rfl ?_ ?_
          rotate_left
          rotate_left
          · go_simp
            first | rfl | (refine ⟨?_, ?_⟩ <;> rfl)
          have hgw : w.heap.size + 3 ≤ W2.heap.size := by have := HF.out.ltN 0 rfl; omega
          replace Q1 := Lib.hid (Q1.out.below ((Below.refl _ W2).alloc (Nat.le_refl _) (.cells #[.bool false, .slice none 0 0] 29)))
          replace Q2 := Lib.hid (Q2.out.below ((Below.refl _ W2).alloc (Nat.le_refl _) (.cells #[.bool false, .slice none 0 0] 29)))
          try replace Q3 := Lib.hid (Q3.out.below ((Below.refl _ W2).alloc (Nat.le_refl _) (.cells #[.bool false, .slice none 0 0] 29)))
          try replace Q4 := Lib.hid (Q4.out.below ((Below.refl _ W2).alloc (Nat.le_refl _) (.cells #[.bool false, .slice none 0 0] 29)))
          try replace Q5 := Lib.hid (Q5.out.below ((Below.refl _ W2).alloc (Nat.le_refl _) (.cells #[.bool false, .slice none 0 0] 29)))
          replace HF := Lib.hid (HF.out.boxEnd [.bool false, .slice none 0 0] 29)
          refine hK.out _ _ ⟨HF.out.cellN 2 rfl 0 rfl, HF.out.cellN 2 rfl 1 rfl, HF.out.cellN 2 rfl 2 rfl, HF.out.cellN 1 rfl 0 rfl, HF.out.cellN 1 rfl 1 rfl, HF.out.cellN 1 rfl 2 rfl⟩ (fun hHeld => ?_)
          clear hK K
          refine norm_ (a' := ?_) ?_ ?_
          rotate_left
          · show Act.put _ (some 5) _ = _
            simp only [Act.put, List.setIfInBounds_toArray, List.set_cons_zero, List.set_cons_succ]
            rfl
          obtain ⟨g, hg⟩ : ∃ g, g = W2.heap.size := ⟨_, rfl⟩
          obtain ⟨W12, hV⟩ : ∃ X, X = W2.alloc (.cells #[.bool false, .slice none 0 0] 29) := ⟨_, rfl⟩
          rw [← hg] at HF hgw ⊢
          rw [← hV] at HF Q1 Q2 ⊢
          try rw [← hV] at Q3
          try rw [← hV] at Q4
          try rw [← hV] at Q5
          clear hg hV
          refine one_ (i := 10) (N := (some 20)) #[true, true, true, true, true, true, true, true, true, true, true, false, false, true, false] rfl rfl (by kernel_rfl) (by decide) (fun K hK => ?_)
          refine goes_ Try.func76 (by kernel_rfl) rfl #[.slice B1 (dg p.den).length d1] (by rfl) rfl rfl (by (try simp only [List.map_toArray, List.map_cons, List.map_nil]); first | done | rfl) ?_
          refine (r3_positive B1 (dg p.den).length d1 W12).mono ?_
          rintro e W13 ⟨rfl, q3⟩
          refine ⟨_, rfl, ?_⟩
          replace HF := Lib.hid (HF.out.below q3)
          replace Q1 := Lib.hid (Q1.out.below q3)
          replace Q2 := Lib.hid (Q2.out.below q3)
          try replace Q3 := Lib.hid (Q3.out.below q3)
          clear q3
          refine hK.out _ _ ⟨HF.out.cellN 2 rfl 0 rfl, HF.out.cellN 2 rfl 1 rfl, HF.out.cellN 2 rfl 2 rfl, HF.out.cellN 1 rfl 0 rfl, HF.out.cellN 1 rfl 1 rfl, HF.out.cellN 1 rfl 2 rfl⟩ (fun hHeld => ?_)
          clear hK K
          refine norm_ (a' := ?_) ?_ ?_
          rotate_left
          · show Act.put _ (some 20) _ = _
            simp only [Act.put, List.setIfInBounds_toArray, List.set_cons_zero, List.set_cons_succ]
            rfl
          refine one_ (i := 11) (N := (some 21)) #[true, true, true, true, true, true, true, true, true, true, true, true, false, true, false] rfl rfl (by kernel_rfl) (by decide) (fun K hK => ?_)
          refine goes_ Try.func75 (by kernel_rfl) rfl #[.agg #[.bool (decide (q.num < 0)), .slice A2 (dg q.num.natAbs).length c2], .agg #[.bool false, .slice B1 (dg p.den).length d1]] (by rfl) rfl rfl (by (try simp only [List.map_toArray, List.map_cons, List.map_nil]); first | done | rfl) ?_
          refine (hM2.out W13 A1 c1 B1 d1 A2 c2 B2 d2 Q1.out Q2.out).mono ?_
          rintro e W14 ⟨A4, c4, rfl, q1, q2, q3⟩
          refine ⟨_, rfl, ?_⟩
          replace HF := Lib.hid (HF.out.below q3)
          replace Q1 := Lib.hid (Q1.out.below q3)
          replace Q2 := Lib.hid (Q2.out.below q3)
          replace Q3 := Lib.hid (Q3.out.below q3)
          have Q4 := Lib.hid (In.dg q2 q1)
          clear q1 q2 q3
          refine hK.out _ _ ⟨HF.out.cellN 2 rfl 0 rfl, HF.out.cellN 2 rfl 1 rfl, HF.out.cellN 2 rfl 2 rfl, HF.out.cellN 1 rfl 0 rfl, HF.out.cellN 1 rfl 1 rfl, HF.out.cellN 1 rfl 2 rfl⟩ (fun hHeld => ?_)
          clear hK K
          refine norm_ (a' := ?_) ?_ ?_
          rotate_left
          · show Act.put _ (some 21) _ = _
            simp only [Act.put, List.setIfInBounds_toArray, List.set_cons_zero, List.set_cons_succ]
            rfl
          refine one_ (i := 12) (N := (some 22)) #[true, true, true, true, true, true, true, true, true, true, true, true, true, true, false] rfl rfl (by kernel_rfl) (by decide) (fun K hK => ?_)
          refine goes_ Try.func74 (by kernel_rfl) rfl #[.agg #[.bool (decide (p.num * q.den < 0)), .slice A3 (dg (p.num * q.den).natAbs).length c3], .agg #[.bool (decide (q.num * p.den < 0)), .slice A4 (dg (q.num * p.den).natAbs).length c4]] (by rfl) rfl rfl (by (try simp only [List.map_toArray, List.map_cons, List.map_nil]); first | done | rfl) ?_
          refine (hA.out W14 A3 c3 A4 c4 Q3.out Q4.out).mono ?_
          rintro e W15 ⟨A5, c5, rfl, q1, q2, q3⟩
          refine ⟨_, rfl, ?_⟩
          replace HF := Lib.hid (HF.out.below q3)
          replace Q1 := Lib.hid (Q1.out.below q3)
          replace Q2 := Lib.hid (Q2.out.below q3)
          have Q5 := Lib.hid (In.dg q2 q1)
          clear q1 q2 q3 Q3 Q4
          refine hK.out _ _ ⟨HF.out.cellN 2 rfl 0 rfl, HF.out.cellN 2 rfl 1 rfl, HF.out.cellN 2 rfl 2 rfl, HF.out.cellN 1 rfl 0 rfl, HF.out.cellN 1 rfl 1 rfl, HF.out.cellN 1 rfl 2 rfl⟩ (fun hHeld => ?_)
          clear hK K
          refine norm_ (a' := ?_) ?_ ?_
          rotate_left
          · show Act.put _ (some 22) _ = _
            simp only [Act.put, List.setIfInBounds_toArray, List.set_cons_zero, List.set_cons_succ]
            rfl
          refine one_ (i := 14) (N := none) #[true, true, true, true, true, true, true, true, true, true, true, true, true, true, true] rfl rfl (by kernel_rfl) (by decide) (fun K hK => ?_)
          have hf0 := HF.out.frozenN 3 rfl 0
          have hf1 := HF.out.frozenN 3 rfl 1
          have hd0 := HF.out.cellN 3 rfl 0 rfl
          have hd1 := HF.out.cellN 3 rfl 1 rfl
          refine skip_ (w1 := ?_) (by rfl) rfl ?_ ?_
          rotate_left
          · go_simp
            rfl
          replace Q1 := Lib.hid (Q1.out.put2 (HF.out.ownN 3 rfl) (by simp) (a := .bool (decide (p.num * q.den + q.num * p.den < 0))) (by simp) (.slice A5 (dg (p.num * q.den + q.num * p.den).natAbs).length c5))
          replace Q2 := Lib.hid (Q2.out.put2 (HF.out.ownN 3 rfl) (by simp) (a := .bool (decide (p.num * q.den + q.num * p.den < 0))) (by simp) (.slice A5 (dg (p.num * q.den + q.num * p.den).natAbs).length c5))
          replace Q5 := Lib.hid (Q5.out.put2 (HF.out.ownN 3 rfl) (by simp) (a := .bool (decide (p.num * q.den + q.num * p.den < 0))) (by simp) (.slice A5 (dg (p.num * q.den + q.num * p.den).natAbs).length c5))
          replace HF := Lib.hid (HF.out.put2 3 rfl (by omega) (by simp; omega) (.bool (decide (p.num * q.den + q.num * p.den < 0))) (.slice A5 (dg (p.num * q.den + q.num * p.den).natAbs).length c5))
          refine hK.out _ _ ⟨HF.out.cellN 2 rfl 0 rfl, HF.out.cellN 2 rfl 1 rfl, HF.out.cellN 2 rfl 2 rfl, HF.out.cellN 1 rfl 0 rfl, HF.out.cellN 1 rfl 1 rfl, HF.out.cellN 1 rfl 2 rfl⟩ (fun hHeld => ?_)
          clear hK K
          exact hcont (g, (A3, c3), (A4, c4), A5, c5) _ ⟨hgw, HF.out, Q1.out, Q2.out, Q5.out⟩
      · refine value_ (v := ?_) (w1 := ?_) (by rfl) rfl ?_ ?_
        rotate_left
        rotate_left
        · go_simp
          first | rfl | (refine ⟨?_, ?_⟩ <;> rfl)
        have hgw : w.heap.size + 3 ≤ W1.heap.size := by have := HF.out.ltN 0 rfl; omega
        replace Q1 := Lib.hid (Q1.out.below ((Below.refl _ W1).alloc (Nat.le_refl _) (.cells #[.bool false, .slice none 0 0] 29)))
        replace Q2 := Lib.hid (Q2.out.below ((Below.refl _ W1).alloc (Nat.le_refl _) (.cells #[.bool false, .slice none 0 0] 29)))
        try replace Q3 := Lib.hid (Q3.out.below ((Below.refl _ W1).alloc (Nat.le_refl _) (.cells #[.bool false, .slice none 0 0] 29)))
        try replace Q4 := Lib.hid (Q4.out.below ((Below.refl _ W1).alloc (Nat.le_refl _) (.cells #[.bool false, .slice none 0 0] 29)))
        try replace Q5 := Lib.hid (Q5.out.below ((Below.refl _ W1).alloc (Nat.le_refl _) (.cells #[.bool false, .slice none 0 0] 29)))
        replace HF := Lib.hid (HF.out.boxEnd [.bool false, .slice none 0 0] 29)
        refine hK.out _ _ ⟨HF.out.cellN 2 rfl 0 rfl, HF.out.cellN 2 rfl 1 rfl, HF.out.cellN 2 rfl 2 rfl, HF.out.cellN 1 rfl 0 rfl, HF.out.cellN 1 rfl 1 rfl, HF.out.cellN 1 rfl 2 rfl⟩ (fun hHeld => ?_)
        clear hK K
        refine norm_ (a' := ?_) ?_ ?_
        rotate_left
        · show Act.put _ (some 5) _ = _
          simp only [Act.put, List.setIfInBounds_toArray, List.set_cons_zero, List.set_cons_succ]
          rfl
        obtain ⟨g, hg⟩ : ∃ g, g = W1.heap.size := ⟨_, rfl⟩
        obtain ⟨W16, hV⟩ : ∃ X, X = W1.alloc (.cells #[.bool false, .slice none 0 0] 29) := ⟨_, rfl⟩
        rw [← hg] at HF hgw ⊢
        rw [← hV] at HF Q1 Q2 ⊢
        try rw [← hV] at Q3
        try rw [← hV] at Q4
        try rw [← hV] at Q5
        clear hg hV
        refine one_ (i := 5) (N := (some 15)) #[true, true, true, true, true, true, true, true, true, true, false, false, false, true, false] rfl rfl (by kernel_rfl) (by decide) (fun K hK => ?_)
        refine goes_ Try.func75 (by kernel_rfl) rfl #[.agg #[.bool (decide (p.num < 0)), .slice A1 (dg p.num.natAbs).length c1], .agg #[.bool false, .slice B2 (dg q.den).length d2]] (by rfl) rfl rfl (by (try simp only [List.map_toArray, List.map_cons, List.map_nil]); first | done | rfl) ?_
        refine (hM1.out W16 A1 c1 B1 d1 A2 c2 B2 d2 Q1.out Q2.out).mono ?_
        rintro e W17 ⟨A3, c3, rfl, q1, q2, q3⟩
        refine ⟨_, rfl, ?_⟩
        replace HF := Lib.hid (HF.out.below q3)
        replace Q1 := Lib.hid (Q1.out.below q3)
        replace Q2 := Lib.hid (Q2.out.below q3)
        have Q3 := Lib.hid (In.dg q2 q1)
        clear q1 q2 q3
        refine hK.out _ _ ⟨HF.out.cellN 2 rfl 0 rfl, HF.out.cellN 2 rfl 1 rfl, HF.out.cellN 2 rfl 2 rfl, HF.out.cellN 1 rfl 0 rfl, HF.out.cellN 1 rfl 1 rfl, HF.out.cellN 1 rfl 2 rfl⟩ (fun hHeld => ?_)
        clear hK K
        refine norm_ (a' := ?_) ?_ ?_
        rotate_left
        · show Act.put _ (some 15) _ = _
          simp only [Act.put, List.setIfInBounds_toArray, List.set_cons_zero, List.set_cons_succ]
          rfl
        refine one_ (i := 10) (N := (some 20)) #[true, true, true, true, true, true, true, true, true, true, true, false, false, true, false] rfl rfl (by kernel_rfl) (by decide) (fun K hK => ?_)
        refine goes_ Try.func76 (by kernel_rfl) rfl #[.slice B1 (dg p.den).length d1] (by rfl) rfl rfl (by (try simp only [List.map_toArray, List.map_cons, List.map_nil]); first | done | rfl) ?_
        refine (r3_positive B1 (dg p.den).length d1 W17).mono ?_
        rintro e W18 ⟨rfl, q3⟩
        refine ⟨_, rfl, ?_⟩
        replace HF := Lib.hid (HF.out.below q3)
        replace Q1 := Lib.hid (Q1.out.below q3)
        replace Q2 := Lib.hid (Q2.out.below q3)
        try replace Q3 := Lib.hid (Q3.out.below q3)
        clear q3
        refine hK.out _ _ ⟨HF.out.cellN 2 rfl 0 rfl, HF.out.cellN 2 rfl 1 rfl, HF.out.cellN 2 rfl 2 rfl, HF.out.cellN 1 rfl 0 rfl, HF.out.cellN 1 rfl 1 rfl, HF.out.cellN 1 rfl 2 rfl⟩ (fun hHeld => ?_)
        clear hK K
        refine norm_ (a' := ?_) ?_ ?_
        rotate_left
        · show Act.put _ (some 20) _ = _
          simp only [Act.put, List.setIfInBounds_toArray, List.set_cons_zero, List.set_cons_succ]
          rfl
        refine one_ (i := 11) (N := (some 21)) #[true, true, true, true, true, true, true, true, true, true, true, true, false, true, false] rfl rfl (by kernel_rfl) (by decide) (fun K hK => ?_)
        refine goes_ Try.func75 (by kernel_rfl) rfl #[.agg #[.bool (decide (q.num < 0)), .slice A2 (dg q.num.natAbs).length c2], .agg #[.bool false, .slice B1 (dg p.den).length d1]] (by rfl) rfl rfl (by (try simp only [List.map_toArray, List.map_cons, List.map_nil]); first | done | rfl) ?_
        refine (hM2.out W18 A1 c1 B1 d1 A2 c2 B2 d2 Q1.out Q2.out).mono ?_
        rintro e W19 ⟨A4, c4, rfl, q1, q2, q3⟩
        refine ⟨_, rfl, ?_⟩
        replace HF := Lib.hid (HF.out.below q3)
        replace Q1 := Lib.hid (Q1.out.below q3)
        replace Q2 := Lib.hid (Q2.out.below q3)
        replace Q3 := Lib.hid (Q3.out.below q3)
        have Q4 := Lib.hid (In.dg q2 q1)
        clear q1 q2 q3
        refine hK.out _ _ ⟨HF.out.cellN 2 rfl 0 rfl, HF.out.cellN 2 rfl 1 rfl, HF.out.cellN 2 rfl 2 rfl, HF.out.cellN 1 rfl 0 rfl, HF.out.cellN 1 rfl 1 rfl, HF.out.cellN 1 rfl 2 rfl⟩ (fun hHeld => ?_)
        clear hK K
        refine norm_ (a' := ?_) ?_ ?_
        rotate_left
        · show Act.put _ (some 21) _ = _
          simp only [Act.put, List.setIfInBounds_toArray, List.set_cons_zero, List.set_cons_succ]
          rfl
        refine one_ (i := 12) (N := (some 22)) #[true, true, true, true, true, true, true, true, true, true, true, true, true, true, false] rfl rfl (by kernel_rfl) (by decide) (fun K hK => ?_)
        refine goes_ Try.func74 (by kernel_rfl) rfl #[.agg #[.bool (decide (p.num * q.den < 0)), .slice A3 (dg (p.num * q.den).natAbs).length c3], .agg #[.bool (decide (q.num * p.den < 0)), .slice A4 (dg (q.num * p.den).natAbs).length c4]] (by rfl) rfl rfl (by (try simp only [List.map_toArray, List.map_cons, List.map_nil]); first | done | rfl) ?_
        refine (hA.out W19 A3 c3 A4 c4 Q3.out Q4.out).mono ?_
        rintro e W20 ⟨A5, c5, rfl, q1, q2, q3⟩
        refine ⟨_, rfl, ?_⟩
        replace HF := Lib.hid (HF.out.below q3)
        replace Q1 := Lib.hid (Q1.out.below q3)
        replace Q2 := Lib.hid (Q2.out.below q3)
        have Q5 := Lib.hid (In.dg q2 q1)
        clear q1 q2 q3 Q3 Q4
        refine hK.out _ _ ⟨HF.out.cellN 2 rfl 0 rfl, HF.out.cellN 2 rfl 1 rfl, HF.out.cellN 2 rfl 2 rfl, HF.out.cellN 1 rfl 0 rfl, HF.out.cellN 1 rfl 1 rfl, HF.out.cellN 1 rfl 2 rfl⟩ (fun hHeld => ?_)
        clear hK K
        refine norm_ (a' := ?_) ?_ ?_
        rotate_left
        · show Act.put _ (some 22) _ = _
          simp only [Act.put, List.setIfInBounds_toArray, List.set_cons_zero, List.set_cons_succ]
          rfl
        refine one_ (i := 14) (N := none) #[true, true, true, true, true, true, true, true, true, true, true, true, true, true, true] rfl rfl (by kernel_rfl) (by decide) (fun K hK => ?_)
        have hf0 := HF.out.frozenN 3 rfl 0
        have hf1 := HF.out.frozenN 3 rfl 1
        have hd0 := HF.out.cellN 3 rfl 0 rfl
        have hd1 := HF.out.cellN 3 rfl 1 rfl
        refine skip_ (w1 := ?_) (by rfl) rfl ?_ ?_
        rotate_left
        · go_simp
          rfl
        replace Q1 := Lib.hid (Q1.out.put2 (HF.out.ownN 3 rfl) (by simp) (a := .bool (decide (p.num * q.den + q.num * p.den < 0))) (by simp) (.slice A5 (dg (p.num * q.den + q.num * p.den).natAbs).length c5))
        replace Q2 := Lib.hid (Q2.out.put2 (HF.out.ownN 3 rfl) (by simp) (a := .bool (decide (p.num * q.den + q.num * p.den < 0))) (by simp) (.slice A5 (dg (p.num * q.den + q.num * p.den).natAbs).length c5))
        replace Q5 := Lib.hid (Q5.out.put2 (HF.out.ownN 3 rfl) (by simp) (a := .bool (decide (p.num * q.den + q.num * p.den < 0))) (by simp) (.slice A5 (dg (p.num * q.den + q.num * p.den).natAbs).length c5))
        replace HF := Lib.hid (HF.out.put2 3 rfl (by omega) (by simp; omega) (.bool (decide (p.num * q.den + q.num * p.den < 0))) (.slice A5 (dg (p.num * q.den + q.num * p.den).natAbs).length c5))
        refine hK.out _ _ ⟨HF.out.cellN 2 rfl 0 rfl, HF.out.cellN 2 rfl 1 rfl, HF.out.cellN 2 rfl 2 rfl, HF.out.cellN 1 rfl 0 rfl, HF.out.cellN 1 rfl 1 rfl, HF.out.cellN 1 rfl 2 rfl⟩ (fun hHeld => ?_)
        clear hK K
        exact hcont (g, (A3, c3), (A4, c4), A5, c5) _ ⟨hgw, HF.out, Q1.out, Q2.out, Q5.out⟩
    · refine value_ (v := ?_) (w1 := ?_) (by rfl) rfl ?_ ?_
      rotate_left
      rotate_left
      · go_simp
        first | rfl | (refine ⟨?_, ?_⟩ <;> rfl)
      have hgw : w.heap.size + 3 ≤ W.heap.size := by have := HF.out.ltN 0 rfl; omega
      replace Q1 := Lib.hid (Q1.out.below ((Below.refl _ W).alloc (Nat.le_refl _) (.cells #[.bool false, .slice none 0 0] 29)))
      replace Q2 := Lib.hid (Q2.out.below ((Below.refl _ W).alloc (Nat.le_refl _) (.cells #[.bool false, .slice none 0 0] 29)))
      try replace Q3 := Lib.hid (Q3.out.below ((Below.refl _ W).alloc (Nat.le_refl _) (.cells #[.bool false, .slice none 0 0] 29)))
      try replace Q4 := Lib.hid (Q4.out.below ((Below.refl _ W).alloc (Nat.le_refl _) (.cells #[.bool false, .slice none 0 0] 29)))
      try replace Q5 := Lib.hid (Q5.out.below ((Below.refl _ W).alloc (Nat.le_refl _) (.cells #[.bool false, .slice none 0 0] 29)))
      replace HF := Lib.hid (HF.out.boxEnd [.bool false, .slice none 0 0] 29)
      refine hK.out _ _ ⟨HF.out.cellN 2 rfl 0 rfl, HF.out.cellN 2 rfl 1 rfl, HF.out.cellN 2 rfl 2 rfl, HF.out.cellN 1 rfl 0 rfl, HF.out.cellN 1 rfl 1 rfl, HF.out.cellN 1 rfl 2 rfl⟩ (fun hHeld => ?_)
      clear hK K
      refine norm_ (a' := ?_) ?_ ?_
      rotate_left
      · show Act.put _ (some 5) _ = _
        simp only [Act.put, List.setIfInBounds_toArray, List.set_cons_zero, List.set_cons_succ]
        rfl
      obtain ⟨g, hg⟩ : ∃ g, g = W.heap.size := ⟨_, rfl⟩
      obtain ⟨W21, hV⟩ : ∃ X, X = W.alloc (.cells #[.bool false, .slice none 0 0] 29) := ⟨_, rfl⟩
      rw [← hg] at HF hgw ⊢
      rw [← hV] at HF Q1 Q2 ⊢
      try rw [← hV] at Q3
      try rw [← hV] at Q4
      try rw [← hV] at Q5
      clear hg hV
      refine one_ (i := 4) (N := (some 14)) #[true, true, true, true, true, false, true, true, true, true, false, false, false, true, false] rfl rfl (by kernel_rfl) (by decide) (fun K hK => ?_)
      refine goes_ Try.func76 (by kernel_rfl) rfl #[.slice B2 (dg q.den).length d2] (by rfl) rfl rfl (by (try simp only [List.map_toArray, List.map_cons, List.map_nil]); first | done | rfl) ?_
      refine (r3_positive B2 (dg q.den).length d2 W21).mono ?_
      rintro e W22 ⟨rfl, q3⟩
      refine ⟨_, rfl, ?_⟩
      replace HF := Lib.hid (HF.out.below q3)
      replace Q1 := Lib.hid (Q1.out.below q3)
      replace Q2 := Lib.hid (Q2.out.below q3)
      try replace Q3 := Lib.hid (Q3.out.below q3)
      clear q3
      refine hK.out _ _ ⟨HF.out.cellN 2 rfl 0 rfl, HF.out.cellN 2 rfl 1 rfl, HF.out.cellN 2 rfl 2 rfl, HF.out.cellN 1 rfl 0 rfl, HF.out.cellN 1 rfl 1 rfl, HF.out.cellN 1 rfl 2 rfl⟩ (fun hHeld => ?_)
      clear hK K
      refine norm_ (a' := ?_) ?_ ?_
      rotate_left
      · show Act.put _ (some 14) _ = _
        simp only [Act.put, List.setIfInBounds_toArray, List.set_cons_zero, List.set_cons_succ]
        rfl
      refine one_ (i := 5) (N := (some 15)) #[true, true, true, true, true, true, true, true, true, true, false, false, false, true, false] rfl rfl (by kernel_rfl) (by decide) (fun K hK => ?_)
      refine goes_ Try.func75 (by kernel_rfl) rfl #[.agg #[.bool (decide (p.num < 0)), .slice A1 (dg p.num.natAbs).length c1], .agg #[.bool false, .slice B2 (dg q.den).length d2]] (by rfl) rfl rfl (by (try simp only [List.map_toArray, List.map_cons, List.map_nil]); first | done | rfl) ?_
      refine (hM1.out W22 A1 c1 B1 d1 A2 c2 B2 d2 Q1.out Q2.out).mono ?_
      rintro e W23 ⟨A3, c3, rfl, q1, q2, q3⟩
      refine ⟨_, rfl, ?_⟩
      replace HF := Lib.hid (HF.out.below q3)
      replace Q1 := Lib.hid (Q1.out.below q3)
      replace Q2 := Lib.hid (Q2.out.below q3)
      have Q3 := Lib.hid (In.dg q2 q1)
      clear q1 q2 q3
      refine hK.out _ _ ⟨HF.out.cellN 2 rfl 0 rfl, HF.out.cellN 2 rfl 1 rfl, HF.out.cellN 2 rfl 2 rfl, HF.out.cellN 1 rfl 0 rfl, HF.out.cellN 1 rfl 1 rfl, HF.out.cellN 1 rfl 2 rfl⟩ (fun hHeld => ?_)
      clear hK K
      refine norm_ (a' := ?_) ?_ ?_
      rotate_left
      · show Act.put _ (some 15) _ = _
        simp only [Act.put, List.setIfInBounds_toArray, List.set_cons_zero, List.set_cons_succ]
        rfl
      refine one_ (i := 10) (N := (some 20)) #[true, true, true, true, true, true, true, true, true, true, true, false, false, true, false] rfl rfl (by kernel_rfl) (by decide) (fun K hK => ?_)
      refine goes_ Try.func76 (by kernel_rfl) rfl #[.slice B1 (dg p.den).length d1] (by rfl) rfl rfl (by (try simp only [List.map_toArray, List.map_cons, List.map_nil]); first | done | rfl) ?_
      refine (r3_positive B1 (dg p.den).length d1 W23).mono ?_
      rintro e W24 ⟨rfl, q3⟩
      refine ⟨_, rfl, ?_⟩
      replace HF := Lib.hid (HF.out.below q3)
      replace Q1 := Lib.hid (Q1.out.below q3)
      replace Q2 := Lib.hid (Q2.out.below q3)
      try replace Q3 := Lib.hid (Q3.out.below q3)
      clear q3
      refine hK.out _ _ ⟨HF.out.cellN 2 rfl 0 rfl, HF.out.cellN 2 rfl 1 rfl, HF.out.cellN 2 rfl 2 rfl, HF.out.cellN 1 rfl 0 rfl, HF.out.cellN 1 rfl 1 rfl, HF.out.cellN 1 rfl 2 rfl⟩ (fun hHeld => ?_)
      clear hK K
      refine norm_ (a' := ?_) ?_ ?_
      rotate_left
      · show Act.put _ (some 20) _ = _
        simp only [Act.put, List.setIfInBounds_toArray, List.set_cons_zero, List.set_cons_succ]
        rfl
      refine one_ (i := 11) (N := (some 21)) #[true, true, true, true, true, true, true, true, true, true, true, true, false, true, false] rfl rfl (by kernel_rfl) (by decide) (fun K hK => ?_)
      refine goes_ Try.func75 (by kernel_rfl) rfl #[.agg #[.bool (decide (q.num < 0)), .slice A2 (dg q.num.natAbs).length c2], .agg #[.bool false, .slice B1 (dg p.den).length d1]] (by rfl) rfl rfl (by (try simp only [List.map_toArray, List.map_cons, List.map_nil]); first | done | rfl) ?_
      refine (hM2.out W24 A1 c1 B1 d1 A2 c2 B2 d2 Q1.out Q2.out).mono ?_
      rintro e W25 ⟨A4, c4, rfl, q1, q2, q3⟩
      refine ⟨_, rfl, ?_⟩
      replace HF := Lib.hid (HF.out.below q3)
      replace Q1 := Lib.hid (Q1.out.below q3)
      replace Q2 := Lib.hid (Q2.out.below q3)
      replace Q3 := Lib.hid (Q3.out.below q3)
      have Q4 := Lib.hid (In.dg q2 q1)
      clear q1 q2 q3
      refine hK.out _ _ ⟨HF.out.cellN 2 rfl 0 rfl, HF.out.cellN 2 rfl 1 rfl, HF.out.cellN 2 rfl 2 rfl, HF.out.cellN 1 rfl 0 rfl, HF.out.cellN 1 rfl 1 rfl, HF.out.cellN 1 rfl 2 rfl⟩ (fun hHeld => ?_)
      clear hK K
      refine norm_ (a' := ?_) ?_ ?_
      rotate_left
      · show Act.put _ (some 21) _ = _
        simp only [Act.put, List.setIfInBounds_toArray, List.set_cons_zero, List.set_cons_succ]
        rfl
      refine one_ (i := 12) (N := (some 22)) #[true, true, true, true, true, true, true, true, true, true, true, true, true, true, false] rfl rfl (by kernel_rfl) (by decide) (fun K hK => ?_)
      refine goes_ Try.func74 (by kernel_rfl) rfl #[.agg #[.bool (decide (p.num * q.den < 0)), .slice A3 (dg (p.num * q.den).natAbs).length c3], .agg #[.bool (decide (q.num * p.den < 0)), .slice A4 (dg (q.num * p.den).natAbs).length c4]] (by rfl) rfl rfl (by (try simp only [List.map_toArray, List.map_cons, List.map_nil]); first | done | rfl) ?_
      refine (hA.out W25 A3 c3 A4 c4 Q3.out Q4.out).mono ?_
      rintro e W26 ⟨A5, c5, rfl, q1, q2, q3⟩
      refine ⟨_, rfl, ?_⟩
      replace HF := Lib.hid (HF.out.below q3)
      replace Q1 := Lib.hid (Q1.out.below q3)
      replace Q2 := Lib.hid (Q2.out.below q3)
      have Q5 := Lib.hid (In.dg q2 q1)
      clear q1 q2 q3 Q3 Q4
      refine hK.out _ _ ⟨HF.out.cellN 2 rfl 0 rfl, HF.out.cellN 2 rfl 1 rfl, HF.out.cellN 2 rfl 2 rfl, HF.out.cellN 1 rfl 0 rfl, HF.out.cellN 1 rfl 1 rfl, HF.out.cellN 1 rfl 2 rfl⟩ (fun hHeld => ?_)
      clear hK K
      refine norm_ (a' := ?_) ?_ ?_
      rotate_left
      · show Act.put _ (some 22) _ = _
        simp only [Act.put, List.setIfInBounds_toArray, List.set_cons_zero, List.set_cons_succ]
        rfl
      refine one_ (i := 14) (N := none) #[true, true, true, true, true, true, true, true, true, true, true, true, true, true, true] rfl rfl (by kernel_rfl) (by decide) (fun K hK => ?_)
      have hf0 := HF.out.frozenN 3 rfl 0
      have hf1 := HF.out.frozenN 3 rfl 1
      have hd0 := HF.out.cellN 3 rfl 0 rfl
      have hd1 := HF.out.cellN 3 rfl 1 rfl
      refine skip_ (w1 := ?_) (by rfl) rfl ?_ ?_
      rotate_left
      · go_simp
        rfl
      replace Q1 := Lib.hid (Q1.out.put2 (HF.out.ownN 3 rfl) (by simp) (a := .bool (decide (p.num * q.den + q.num * p.den < 0))) (by simp) (.slice A5 (dg (p.num * q.den + q.num * p.den).natAbs).length c5))
      replace Q2 := Lib.hid (Q2.out.put2 (HF.out.ownN 3 rfl) (by simp) (a := .bool (decide (p.num * q.den + q.num * p.den < 0))) (by simp) (.slice A5 (dg (p.num * q.den + q.num * p.den).natAbs).length c5))
      replace Q5 := Lib.hid (Q5.out.put2 (HF.out.ownN 3 rfl) (by simp) (a := .bool (decide (p.num * q.den + q.num * p.den < 0))) (by simp) (.slice A5 (dg (p.num * q.den + q.num * p.den).natAbs).length c5))
      replace HF := Lib.hid (HF.out.put2 3 rfl (by omega) (by simp; omega) (.bool (decide (p.num * q.den + q.num * p.den < 0))) (.slice A5 (dg (p.num * q.den + q.num * p.den).natAbs).length c5))
      refine hK.out _ _ ⟨HF.out.cellN 2 rfl 0 rfl, HF.out.cellN 2 rfl 1 rfl, HF.out.cellN 2 rfl 2 rfl, HF.out.cellN 1 rfl 0 rfl, HF.out.cellN 1 rfl 1 rfl, HF.out.cellN 1 rfl 2 rfl⟩ (fun hHeld => ?_)
      clear hK K
      exact hcont (g, (A3, c3), (A4, c4), A5, c5) _ ⟨hgw, HF.out, Q1.out, Q2.out, Q5.out⟩
  rintro ⟨g, ⟨A3, c3⟩, ⟨A4, c4⟩, A5, c5⟩ W ⟨hgw, hF_, q1, q2, q3⟩
  clear hHeld
  refine norm_ (a' := ?_) ?_ ?_
  rotate_left
  · show putAll _ _ = _
    simp only [putAll, Act.put, List.setIfInBounds_toArray, List.set_cons_zero, List.set_cons_succ]
    rfl
  refine done_ (by kernel_rfl) ?_
  have HF := Lib.hid hF_
  have Q1 := Lib.hid q1
  have Q2 := Lib.hid q2
  have Q5 := Lib.hid q3
  clear hF_ q1 q2 q3
  go_wp2_with fail
  replace Q1 := Lib.hid (Q1.out.below (Below.drew (Below.refl _ _)))
  replace Q2 := Lib.hid (Q2.out.below (Below.drew (Below.refl _ _)))
  replace Q5 := Lib.hid (Q5.out.below (Below.drew (Below.refl _ _)))
  have HF_ := Lib.hid HF.out.drew
  clear HF
  have HF := HF_
  clear HF_
  refine start_ (n := 9) (S := fun w' => w'.cell? ⟨w.heap.size, 0, none⟩ = some (.bool (decide (p.num < 0))) ∧ w'.cell? ⟨w.heap.size, 1, none⟩ = some (.slice A1 (dg p.num.natAbs).length c1) ∧ w'.cell? ⟨w.heap.size, 2, none⟩ = some (.slice B1 (dg p.den).length d1) ∧ w'.cell? ⟨w.heap.size + 1, 0, none⟩ = some (.bool (decide (q.num < 0))) ∧ w'.cell? ⟨w.heap.size + 1, 1, none⟩ = some (.slice A2 (dg q.num.natAbs).length c2) ∧ w'.cell? ⟨w.heap.size + 1, 2, none⟩ = some (.slice B2 (dg q.den).length d2) ∧ w'.cell? ⟨g, 0, none⟩ = some (.bool (decide (p.num * q.den + q.num * p.den < 0))) ∧ w'.cell? ⟨g, 1, none⟩ = some (.slice A5 (dg (p.num * q.den + q.num * p.den).natAbs).length c5)) (ds := []) #[false, false, false, false, false, false, false, false, false] (by kernel_rfl) rfl rfl ⟨HF.out.cellN 2 rfl 0 rfl, HF.out.cellN 2 rfl 1 rfl, HF.out.cellN 2 rfl 2 rfl, HF.out.cellN 1 rfl 0 rfl, HF.out.cellN 1 rfl 1 rfl, HF.out.cellN 1 rfl 2 rfl, HF.out.cellN 3 rfl 0 rfl, HF.out.cellN 3 rfl 1 rfl⟩ (fun hHeld => ?_)
  generalize World.drew _ = W at *
  refine pure_ (i := 1) (N := (some 24)) (v := ?_) (a' := ?_) #[false, true, false, false, false, false, false, false, false] rfl rfl (by kernel_rfl) (fun _ _ _ h => h) (Or.inl ⟨by rfl, ?_⟩) ?_ ?_
  rotate_left
  · intro w'
    go_simp
    with_reducible rfl
  rotate_left
  · simp only [Act.put, List.setIfInBounds_toArray, List.set_cons_zero, List.set_cons_succ]
    rfl
  refine pure_ (i := 3) (N := (some 26)) (v := ?_) (a' := ?_) #[false, true, false, true, false, false, false, false, false] rfl rfl (by kernel_rfl) (fun _ _ _ h => h) (Or.inl ⟨by rfl, ?_⟩) ?_ ?_
  rotate_left
  · intro w'
    go_simp
    with_reducible rfl
  rotate_left
  · simp only [Act.put, List.setIfInBounds_toArray, List.set_cons_zero, List.set_cons_succ]
    rfl
  refine take_ (i := 0) (N := (some 23)) (v := ?_) (a' := ?_) #[true, true, false, true, false, false, false, false, false] rfl rfl (by kernel_rfl) (fun _ _ _ h => h) (Or.inl ⟨by rfl, ?_⟩) hHeld ?_ ?_
  rotate_left
  · rintro w' ⟨s0, s1, s2, s3, s4, s5, s6, s7⟩
    go_simp
    with_reducible rfl
  rotate_left
  · simp only [Act.put, List.setIfInBounds_toArray, List.set_cons_zero, List.set_cons_succ]
    rfl
  refine take_ (i := 2) (N := (some 25)) (v := ?_) (a' := ?_) #[true, true, true, true, false, false, false, false, false] rfl rfl (by kernel_rfl) (fun _ _ _ h => h) (Or.inl ⟨by rfl, ?_⟩) hHeld ?_ ?_
  rotate_left
  · rintro w' ⟨s0, s1, s2, s3, s4, s5, s6, s7⟩
    go_simp
    with_reducible rfl
  rotate_left
  · simp only [Act.put, List.setIfInBounds_toArray, List.set_cons_zero, List.set_cons_succ]
    rfl
  refine take_ (i := 4) (N := (some 27)) (v := ?_) (a' := ?_) #[true, true, true, true, true, false, false, false, false] rfl rfl (by kernel_rfl) (fun _ _ _ h => h) (Or.inl ⟨by rfl, ?_⟩) hHeld ?_ ?_
  rotate_left
  · rintro w' ⟨s0, s1, s2, s3, s4, s5, s6, s7⟩
    go_simp
    with_reducible rfl
  rotate_left
  · simp only [Act.put, List.setIfInBounds_toArray, List.set_cons_zero, List.set_cons_succ]
    rfl
  refine one_ (i := 5) (N := (some 28)) #[true, true, true, true, true, true, false, false, false] rfl rfl (by kernel_rfl) (by decide) (fun K hK => ?_)
  refine goes_ Try.func77 (by kernel_rfl) rfl #[.slice B1 (dg p.den).length d1, .slice B2 (dg q.den).length d2] (by rfl) rfl rfl (by (try simp only [List.map_toArray, List.map_cons, List.map_nil]); first | done | rfl) ?_
  refine (hD.out W A1 c1 B1 d1 A2 c2 B2 d2 Q1.out Q2.out).mono ?_
  rintro e W1 ⟨A6, c6, rfl, q1, q3⟩
  refine ⟨_, rfl, ?_⟩
  replace HF := Lib.hid (HF.out.below q3)
  replace Q5 := Lib.hid (Q5.out.below q3)
  have Q6 := Lib.hid q1
  clear q1 q3 Q1 Q2
  refine hK.out _ _ ⟨HF.out.cellN 2 rfl 0 rfl, HF.out.cellN 2 rfl 1 rfl, HF.out.cellN 2 rfl 2 rfl, HF.out.cellN 1 rfl 0 rfl, HF.out.cellN 1 rfl 1 rfl, HF.out.cellN 1 rfl 2 rfl, HF.out.cellN 3 rfl 0 rfl, HF.out.cellN 3 rfl 1 rfl⟩ (fun hHeld => ?_)
  clear hK K
  refine norm_ (a' := ?_) ?_ ?_
  rotate_left
  · show Act.put _ (some 28) _ = _
    simp only [Act.put, List.setIfInBounds_toArray, List.set_cons_zero, List.set_cons_succ]
    rfl
  refine pure_ (i := 6) (N := (some 29)) (v := ?_) (a' := ?_) #[true, true, true, true, true, true, true, false, false] rfl rfl (by kernel_rfl) (fun _ _ _ h => h) (Or.inl ⟨by rfl, ?_⟩) ?_ ?_
  rotate_left
  · intro w'
    go_simp
    with_reducible rfl
  rotate_left
  · simp only [Act.put, List.setIfInBounds_toArray, List.set_cons_zero, List.set_cons_succ]
    rfl
  refine one_ (i := 7) (N := (some 30)) #[true, true, true, true, true, true, true, true, false] rfl rfl (by kernel_rfl) (by decide) (fun K hK => ?_)
  refine goes_ Try.func73 (by kernel_rfl) rfl #[.agg #[.bool (decide (p.num * q.den + q.num * p.den < 0)), .slice A5 (dg (p.num * q.den + q.num * p.den).natAbs).length c5, .slice A6 (dg (p.den * q.den)).length c6]] (by rfl) rfl rfl (by (try simp only [List.map_toArray, List.map_cons, List.map_nil]); first | done | rfl) ?_
  refine (hG.out W1 A5 c5 A6 c6 Q5.out Q6.out).mono ?_
  rintro e W2 ⟨A7, c7, A8, c8, rfl, q1, q2, q3⟩
  refine ⟨_, rfl, ?_⟩
  replace HF := Lib.hid (HF.out.below q3)
  replace Q5 := Lib.hid q1
  replace Q6 := Lib.hid q2
  clear q1 q2 q3
  refine hK.out _ _ ⟨HF.out.cellN 2 rfl 0 rfl, HF.out.cellN 2 rfl 1 rfl, HF.out.cellN 2 rfl 2 rfl, HF.out.cellN 1 rfl 0 rfl, HF.out.cellN 1 rfl 1 rfl, HF.out.cellN 1 rfl 2 rfl, HF.out.cellN 3 rfl 0 rfl, HF.out.cellN 3 rfl 1 rfl⟩ (fun hHeld => ?_)
  clear hK K
  refine norm_ (a' := ?_) ?_ ?_
  rotate_left
  · show Act.put _ (some 30) _ = _
    simp only [Act.put, List.setIfInBounds_toArray, List.set_cons_zero, List.set_cons_succ]
    rfl
  refine one_ (i := 8) (N := none) #[true, true, true, true, true, true, true, true, true] rfl rfl (by kernel_rfl) (by decide) (fun K hK => ?_)
  have hf0 := HF.out.frozenN 0 rfl 0
  have hf1 := HF.out.frozenN 0 rfl 1
  have hf2 := HF.out.frozenN 0 rfl 2
  have hd0 := HF.out.cellN 0 rfl 0 rfl
  have hd1 := HF.out.cellN 0 rfl 1 rfl
  have hd2 := HF.out.cellN 0 rfl 2 rfl
  refine skip_ (w1 := ?_) (by rfl) rfl ?_ ?_
  rotate_left
  · go_simp
    rfl
  have HE := Lib.hid (end_rat HF.out (by simp) (by simp) (by omega) Q5.out Q6.out rfl)
  replace HF := Lib.hid (HF.out.put3 0 rfl (by omega) (by simp; omega) (.bool (decide (r.num < 0))) (.slice A7 (dg r.num.natAbs).length c7) (.slice A8 (dg r.den).length c8))
  refine hK.out _ _ ⟨HF.out.cellN 2 rfl 0 rfl, HF.out.cellN 2 rfl 1 rfl, HF.out.cellN 2 rfl 2 rfl, HF.out.cellN 1 rfl 0 rfl, HF.out.cellN 1 rfl 1 rfl, HF.out.cellN 1 rfl 2 rfl, HF.out.cellN 3 rfl 0 rfl, HF.out.cellN 3 rfl 1 rfl⟩ (fun hHeld => ?_)
  clear hK K
  refine done_ (by kernel_rfl) ?_
  generalize decide (r.num < 0) = b at HE ⊢
  go_wp2
  obtain ⟨f1, f2⟩ := HE.out
  exact post_own f2 rfl rfl rfl Try.underlying31 rfl (by kernel_rfl) f1
end Go.Proofs.Ytchdoignomidjaa.F

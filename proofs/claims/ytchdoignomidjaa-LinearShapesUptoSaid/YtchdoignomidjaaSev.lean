import Derived.Test.YtchdoignomidjaaRefm
import Derived.Test.YtchdoignomidjaaSix
/- The walks of the reference's layer 3, last part: Neg, Sub, Cmp. -/
set_option linter.unusedVariables false
set_option linter.unusedSimpArgs false
namespace Go.Proofs.Ytchdoignomidjaa.F
open Go.RowKit Go.Shelf Go.Proofs.YtchdoignomidjaaW.PrintLast

set_option maxHeartbeats 1000000 in
set_option maxRecDepth 100000 in
theorem r3_Neg (s : Bool) (A : Option Addr) (c : Nat) (xs : List Int) (B : Option Addr) (d : Nat) (ys : List Int) (w : World) (h : In w A c xs) (hm : xs.length ≤ 549755813887) (k : In w B d ys) (km : ys.length ≤ 549755813887) :
    Calls Try.prog 96 #[.agg #[.bool s, .slice A xs.length c, .slice B ys.length d]] w fun e w' => ToldQ w (- rv s xs ys) e w' := by
  have hN := Lib.hid (fun (W : World) (hb : Below w.heap.size w W) => r3_Norm s A c xs B d ys W (h.below hb) (by omega) (k.below hb) (by omega))
  have hl := rv_len s h.lim k.lim
  generalize rv s xs ys = q at *
  have hG := Lib.hid (fun (W : World) (A' : Option Addr) (c' : Nat) (hr : In W A' c' (dg q.num.natAbs)) => r2_Neg (decide (q.num < 0)) A' c' _ W hr (by omega))
  rw [iv_can, ← Rat.neg_num] at hG
  have hden : (-q).den = q.den := Rat.neg_den q
  have hnl : (dg (-q).num.natAbs).length = (dg q.num.natAbs).length := by rw [Rat.neg_num, Int.natAbs_neg]
  generalize -q = r at *
  have hR := Lib.hid (fun (W : World) (A' : Option Addr) (c' : Nat) (B' : Option Addr) (d' : Nat) (k1 : In W A' c' (dg r.num.natAbs)) (k2 : In W B' d' (dg q.den)) => r3_Norm (decide (r.num < 0)) A' c' _ B' d' _ W k1 (by omega) k2 (by omega))
  rw [show rv (decide (r.num < 0)) (dg r.num.natAbs) (dg q.den) = r from by rw [← hden]; exact rv_can r] at hR
  clear h k hl hden hnl
  have HF := Lib.hid (((Fr.refl w).box [.bool s, .slice A xs.length c, .slice B ys.length d] 31).box [.bool false, .slice none 0 0, .slice none 0 0] 31)
  have hsz : (w.alloc (.cells #[.bool s, .slice A xs.length c, .slice B ys.length d] 31)).heap.size = w.heap.size + 1 := by simp
  rw [show [Value.bool s, Value.slice A xs.length c, Value.slice B ys.length d].toArray = #[Value.bool s, Value.slice A xs.length c, Value.slice B ys.length d] from rfl, hsz] at HF
  clear hsz
  go_enter Try.func96, Try.ntmps96
  go_wp2_with fail
  refine (hN.out _ HF.out.bel).mono ?_
  rintro e W1 ⟨A2, c2, B2, d2, rfl, q1, q2, q3⟩
  replace HF := Lib.hid (HF.out.below q3)
  have Q1 := Lib.hid (InQ.mk q1 q2)
  clear q1 q2 q3
  have hf0 := HF.out.frozenN 1 rfl 0
  have hf1 := HF.out.frozenN 1 rfl 1
  have hf2 := HF.out.frozenN 1 rfl 2
  have hd0 := HF.out.cellN 1 rfl 0 rfl
  have hd1 := HF.out.cellN 1 rfl 1 rfl
  have hd2 := HF.out.cellN 1 rfl 2 rfl
  replace Q1 := Lib.hid (Q1.out.put3 (HF.out.ownN 1 rfl) (by simp) (a := .bool (decide (q.num < 0))) (by simp) (b := .slice A2 (dg q.num.natAbs).length c2) (by simp) (.slice B2 (dg q.den).length d2))
  replace HF := Lib.hid (HF.out.put3 1 rfl (by omega) (by simp) (.bool (decide (q.num < 0))) (.slice A2 (dg q.num.natAbs).length c2) (.slice B2 (dg q.den).length d2))
  go_wp2_with fail
  clear hf0 hf1 hf2 hd0 hd1 hd2
  generalize ((W1.setCell ⟨w.heap.size, 0, none⟩ (.bool (decide (q.num < 0)))).setCell ⟨w.heap.size, 1, none⟩ (.slice A2 (dg q.num.natAbs).length c2)).setCell ⟨w.heap.size, 2, none⟩ (.slice B2 (dg q.den).length d2) = W at *
  replace Q1 := Lib.hid (Q1.out.below (Below.drew (Below.refl _ _)))
  have HF_ := Lib.hid HF.out.drew
  clear HF
  have HF := HF_
  clear HF_
  refine start_ (n := 8) (S := fun w' => w'.cell? ⟨w.heap.size, 0, none⟩ = some (.bool (decide (q.num < 0))) ∧ w'.cell? ⟨w.heap.size, 1, none⟩ = some (.slice A2 (dg q.num.natAbs).length c2) ∧ w'.cell? ⟨w.heap.size, 2, none⟩ = some (.slice B2 (dg q.den).length d2)) (ds := []) #[false, false, false, false, false, false, false, false] (by kernel_rfl) rfl rfl ⟨HF.out.cellN 1 rfl 0 rfl, HF.out.cellN 1 rfl 1 rfl, HF.out.cellN 1 rfl 2 rfl⟩ (fun hHeld => ?_)
  generalize World.drew _ = W at *
  refine pure_ (i := 0) (N := (some 5)) (v := ?_) (a' := ?_) #[true, false, false, false, false, false, false, false] rfl rfl (by kernel_rfl) (fun _ _ _ h => h) (Or.inl ⟨by rfl, ?_⟩) ?_ ?_
  rotate_left
  · intro w'
    go_simp
    with_reducible rfl
  rotate_left
  · simp only [Act.put, List.setIfInBounds_toArray, List.set_cons_zero, List.set_cons_succ]
    rfl
  refine pure_ (i := 3) (N := (some 8)) (v := ?_) (a' := ?_) #[true, false, false, true, false, false, false, false] rfl rfl (by kernel_rfl) (fun _ _ _ h => h) (Or.inl ⟨by rfl, ?_⟩) ?_ ?_
  rotate_left
  · intro w'
    go_simp
    with_reducible rfl
  rotate_left
  · simp only [Act.put, List.setIfInBounds_toArray, List.set_cons_zero, List.set_cons_succ]
    rfl
  refine take_ (i := 1) (N := (some 6)) (v := ?_) (a' := ?_) #[true, true, false, true, false, false, false, false] rfl rfl (by kernel_rfl) (fun _ _ _ h => h) (Or.inl ⟨by rfl, ?_⟩) hHeld ?_ ?_
  rotate_left
  · rintro w' ⟨s0, s1, s2⟩
    go_simp
    with_reducible rfl
  rotate_left
  · simp only [Act.put, List.setIfInBounds_toArray, List.set_cons_zero, List.set_cons_succ]
    rfl
  refine take_ (i := 4) (N := (some 9)) (v := ?_) (a' := ?_) #[true, true, false, true, true, false, false, false] rfl rfl (by kernel_rfl) (fun _ _ _ h => h) (Or.inl ⟨by rfl, ?_⟩) hHeld ?_ ?_
  rotate_left
  · rintro w' ⟨s0, s1, s2⟩
    go_simp
    with_reducible rfl
  rotate_left
  · simp only [Act.put, List.setIfInBounds_toArray, List.set_cons_zero, List.set_cons_succ]
    rfl
  refine one_ (i := 2) (N := (some 7)) #[true, true, true, true, true, false, false, false] rfl rfl (by kernel_rfl) (by decide) (fun K hK => ?_)
  refine goes_ Try.func129 (by kernel_rfl) rfl #[.agg #[.bool (decide (q.num < 0)), .slice A2 (dg q.num.natAbs).length c2]] (by rfl) rfl rfl (by (try simp only [List.map_toArray, List.map_cons, List.map_nil]); first | done | rfl) ?_
  refine (hG.out W A2 c2 Q1.out.num).mono ?_
  rintro e W1 ⟨A6, c6, rfl, q1, q2, q3⟩
  refine ⟨_, rfl, ?_⟩
  replace HF := Lib.hid (HF.out.below q3)
  replace Q1 := Lib.hid (Q1.out.den.below q3)
  have Q2 := Lib.hid (In.dg q2 q1)
  clear q1 q2 q3
  refine hK.out _ _ ⟨HF.out.cellN 1 rfl 0 rfl, HF.out.cellN 1 rfl 1 rfl, HF.out.cellN 1 rfl 2 rfl⟩ (fun hHeld => ?_)
  clear hK K
  refine norm_ (a' := ?_) ?_ ?_
  rotate_left
  · show Act.put _ (some 7) _ = _
    simp only [Act.put, List.setIfInBounds_toArray, List.set_cons_zero, List.set_cons_succ]
    rfl
  refine pure_ (i := 5) (N := (some 10)) (v := ?_) (a' := ?_) #[true, true, true, true, true, true, false, false] rfl rfl (by kernel_rfl) (fun _ _ _ h => h) (Or.inl ⟨by rfl, ?_⟩) ?_ ?_
  rotate_left
  · intro w'
    go_simp
    with_reducible rfl
  rotate_left
  · simp only [Act.put, List.setIfInBounds_toArray, List.set_cons_zero, List.set_cons_succ]
    rfl
  refine one_ (i := 6) (N := (some 11)) #[true, true, true, true, true, true, true, false] rfl rfl (by kernel_rfl) (by decide) (fun K hK => ?_)
  refine goes_ Try.func73 (by kernel_rfl) rfl #[.agg #[.bool (decide (r.num < 0)), .slice A6 (dg r.num.natAbs).length c6, .slice B2 (dg q.den).length d2]] (by rfl) rfl rfl (by (try simp only [List.map_toArray, List.map_cons, List.map_nil]); first | done | rfl) ?_
  refine (hR.out W1 A6 c6 B2 d2 Q2.out Q1.out).mono ?_
  rintro e W2 ⟨A7, c7, B7, d7, rfl, q1, q2, q3⟩
  refine ⟨_, rfl, ?_⟩
  replace HF := Lib.hid (HF.out.below q3)
  have Q3 := Lib.hid (InQ.mk q1 q2)
  clear q1 q2 q3
  refine hK.out _ _ ⟨HF.out.cellN 1 rfl 0 rfl, HF.out.cellN 1 rfl 1 rfl, HF.out.cellN 1 rfl 2 rfl⟩ (fun hHeld => ?_)
  clear hK K
  refine norm_ (a' := ?_) ?_ ?_
  rotate_left
  · show Act.put _ (some 11) _ = _
    simp only [Act.put, List.setIfInBounds_toArray, List.set_cons_zero, List.set_cons_succ]
    rfl
  refine one_ (i := 7) (N := none) #[true, true, true, true, true, true, true, true] rfl rfl (by kernel_rfl) (by decide) (fun K hK => ?_)
  have hf0 := HF.out.frozenN 0 rfl 0
  have hf1 := HF.out.frozenN 0 rfl 1
  have hf2 := HF.out.frozenN 0 rfl 2
  have hd0 := HF.out.cellN 0 rfl 0 rfl
  have hd1 := HF.out.cellN 0 rfl 1 rfl
  have hd2 := HF.out.cellN 0 rfl 2 rfl
  refine skip_ (w1 := ?_) (by rfl) rfl ?_ ?_
  rotate_left
  · go_simp
    rfl
  have HE := Lib.hid (end_rat (q := r) (B := B7) (d := d7) HF.out (by simp) (by simp) (by omega) Q3.out.num Q3.out.den rfl)
  replace HF := Lib.hid (HF.out.put3 0 rfl (by omega) (by simp) (.bool (decide (r.num < 0))) (.slice A7 (dg r.num.natAbs).length c7) (.slice B7 (dg r.den).length d7))
  refine hK.out _ _ ⟨HF.out.cellN 1 rfl 0 rfl, HF.out.cellN 1 rfl 1 rfl, HF.out.cellN 1 rfl 2 rfl⟩ (fun hHeld => ?_)
  clear hK K
  refine done_ (by kernel_rfl) ?_
  generalize decide (r.num < 0) = b at HE ⊢
  go_wp2
  obtain ⟨f1, f2⟩ := HE.out
  exact post_own f2 rfl rfl rfl Try.underlying31 rfl (by kernel_rfl) f1

set_option maxHeartbeats 1000000 in
set_option maxRecDepth 100000 in
theorem r3_Sub (s : Bool) (A : Option Addr) (c : Nat) (xs : List Int) (B : Option Addr) (d : Nat) (ys : List Int) (t : Bool) (E : Option Addr) (j : Nat) (us : List Int) (G : Option Addr) (l : Nat) (vs : List Int) (w : World) (h1 : In w A c xs) (m1 : xs.length ≤ 137438953471) (h2 : In w B d ys) (m2 : ys.length ≤ 137438953471) (h3 : In w E j us) (m3 : us.length ≤ 137438953471) (h4 : In w G l vs) (m4 : vs.length ≤ 137438953471) :
    Calls Try.prog 91 #[.agg #[.bool s, .slice A xs.length c, .slice B ys.length d], .agg #[.bool t, .slice E us.length j, .slice G vs.length l]] w fun e w' => ToldQ w (rv s xs ys + - rv t us vs) e w' := by
  have hN := Lib.hid (fun (W : World) (hb : Below w.heap.size w W) => r3_Neg t E j us G l vs W (h3.below hb) (by omega) (h4.below hb) (by omega))
  have hl2 := rv_len t h3.lim h4.lim
  generalize rv t us vs = q at *
  have hden : (-q).den = q.den := Rat.neg_den q
  have hnl : (dg (-q).num.natAbs).length = (dg q.num.natAbs).length := by rw [Rat.neg_num, Int.natAbs_neg]
  generalize -q = r at *
  rw [← hden] at hl2
  have hA := Lib.hid (fun (W : World) (hb : Below w.heap.size w W) (A1 : Option Addr) (c1 : Nat) (B1 : Option Addr) (d1 : Nat) (k : InQ W A1 c1 B1 d1 r) => r3_Add s A c xs B d ys (decide (r.num < 0)) A1 c1 _ B1 d1 _ W (h1.below hb) (by omega) (h2.below hb) (by omega) k.num (by omega) k.den (by omega))
  simp only [rv_can] at hA
  generalize rv s xs ys + r = p at *
  clear h1 h2 h3 h4 hl2 hden hnl
  have HF := Lib.hid ((((Fr.refl w).box [.bool s, .slice A xs.length c, .slice B ys.length d] 31).box [.bool t, .slice E us.length j, .slice G vs.length l] 31).box [.bool false, .slice none 0 0, .slice none 0 0] 31)
  have hsz : (w.alloc (.cells #[.bool s, .slice A xs.length c, .slice B ys.length d] 31)).heap.size = w.heap.size + 1 := by simp
  have hsz2 : ((w.alloc (.cells #[.bool s, .slice A xs.length c, .slice B ys.length d] 31)).alloc (.cells #[.bool t, .slice E us.length j, .slice G vs.length l] 31)).heap.size = w.heap.size + 2 := by simp
  rw [show [Value.bool s, Value.slice A xs.length c, Value.slice B ys.length d].toArray = #[Value.bool s, Value.slice A xs.length c, Value.slice B ys.length d] from rfl, hsz, show [Value.bool t, Value.slice E us.length j, Value.slice G vs.length l].toArray = #[Value.bool t, Value.slice E us.length j, Value.slice G vs.length l] from rfl, hsz2] at HF
  clear hsz hsz2
  go_enter Try.func91, Try.ntmps91
  go_wp2_with fail
  have HF_ := Lib.hid HF.out.drew
  clear HF
  have HF := HF_
  clear HF_
  refine start_ (n := 5) (S := fun w' => w'.cell? ⟨w.heap.size, 0, none⟩ = some (.bool s) ∧ w'.cell? ⟨w.heap.size, 1, none⟩ = some (.slice A xs.length c) ∧ w'.cell? ⟨w.heap.size, 2, none⟩ = some (.slice B ys.length d) ∧ w'.cell? ⟨w.heap.size + 1, 0, none⟩ = some (.bool t) ∧ w'.cell? ⟨w.heap.size + 1, 1, none⟩ = some (.slice E us.length j) ∧ w'.cell? ⟨w.heap.size + 1, 2, none⟩ = some (.slice G vs.length l)) (ds := []) #[false, false, false, false, false] (by kernel_rfl) rfl rfl ⟨HF.out.cellN 2 rfl 0 rfl, HF.out.cellN 2 rfl 1 rfl, HF.out.cellN 2 rfl 2 rfl, HF.out.cellN 1 rfl 0 rfl, HF.out.cellN 1 rfl 1 rfl, HF.out.cellN 1 rfl 2 rfl⟩ (fun hHeld => ?_)
  generalize World.drew _ = W at *
  refine take_ (i := 0) (N := (some 5)) (v := ?_) (a' := ?_) #[true, false, false, false, false] rfl rfl (by kernel_rfl) (fun _ _ _ h => h) (Or.inl ⟨by rfl, ?_⟩) hHeld ?_ ?_
  rotate_left
  · rintro w' ⟨s0, s1, s2, s3, s4, s5⟩
    go_simp
    with_reducible rfl
  rotate_left
  · simp only [Act.put, List.setIfInBounds_toArray, List.set_cons_zero, List.set_cons_succ]
    rfl
  refine take_ (i := 1) (N := (some 6)) (v := ?_) (a' := ?_) #[true, true, false, false, false] rfl rfl (by kernel_rfl) (fun _ _ _ h => h) (Or.inl ⟨by rfl, ?_⟩) hHeld ?_ ?_
  rotate_left
  · rintro w' ⟨s0, s1, s2, s3, s4, s5⟩
    go_simp
    with_reducible rfl
  rotate_left
  · simp only [Act.put, List.setIfInBounds_toArray, List.set_cons_zero, List.set_cons_succ]
    rfl
  refine one_ (i := 2) (N := (some 7)) #[true, true, true, false, false] rfl rfl (by kernel_rfl) (by decide) (fun K hK => ?_)
  refine goes_ Try.func96 (by kernel_rfl) rfl #[.agg #[.bool t, .slice E us.length j, .slice G vs.length l]] (by rfl) rfl rfl (by (try simp only [List.map_toArray, List.map_cons, List.map_nil]); first | done | rfl) ?_
  refine (hN.out W HF.out.bel).mono ?_
  rintro e W1 ⟨A1, c1, B1, d1, rfl, q1, q2, q3⟩
  refine ⟨_, rfl, ?_⟩
  replace HF := Lib.hid (HF.out.below q3)
  have Q1 := Lib.hid (InQ.mk q1 q2)
  clear q1 q2 q3
  refine hK.out _ _ ⟨HF.out.cellN 2 rfl 0 rfl, HF.out.cellN 2 rfl 1 rfl, HF.out.cellN 2 rfl 2 rfl, HF.out.cellN 1 rfl 0 rfl, HF.out.cellN 1 rfl 1 rfl, HF.out.cellN 1 rfl 2 rfl⟩ (fun hHeld => ?_)
  clear hK K
  refine norm_ (a' := ?_) ?_ ?_
  rotate_left
  · show Act.put _ (some 7) _ = _
    simp only [Act.put, List.setIfInBounds_toArray, List.set_cons_zero, List.set_cons_succ]
    rfl
  refine one_ (i := 3) (N := (some 8)) #[true, true, true, true, false] rfl rfl (by kernel_rfl) (by decide) (fun K hK => ?_)
  refine goes_ Try.func30 (by kernel_rfl) rfl #[.agg #[.bool s, .slice A xs.length c, .slice B ys.length d], .agg #[.bool (decide (r.num < 0)), .slice A1 (dg r.num.natAbs).length c1, .slice B1 (dg r.den).length d1]] (by rfl) rfl rfl (by (try simp only [List.map_toArray, List.map_cons, List.map_nil]); first | done | rfl) ?_
  refine (hA.out W1 HF.out.bel A1 c1 B1 d1 Q1.out).mono ?_
  rintro e W2 ⟨A2, c2, B2, d2, rfl, q1, q2, q3⟩
  refine ⟨_, rfl, ?_⟩
  replace HF := Lib.hid (HF.out.below q3)
  have Q2 := Lib.hid (InQ.mk q1 q2)
  clear q1 q2 q3
  refine hK.out _ _ ⟨HF.out.cellN 2 rfl 0 rfl, HF.out.cellN 2 rfl 1 rfl, HF.out.cellN 2 rfl 2 rfl, HF.out.cellN 1 rfl 0 rfl, HF.out.cellN 1 rfl 1 rfl, HF.out.cellN 1 rfl 2 rfl⟩ (fun hHeld => ?_)
  clear hK K
  refine norm_ (a' := ?_) ?_ ?_
  rotate_left
  · show Act.put _ (some 8) _ = _
    simp only [Act.put, List.setIfInBounds_toArray, List.set_cons_zero, List.set_cons_succ]
    rfl
  refine one_ (i := 4) (N := none) #[true, true, true, true, true] rfl rfl (by kernel_rfl) (by decide) (fun K hK => ?_)
  have hf0 := HF.out.frozenN 0 rfl 0
  have hf1 := HF.out.frozenN 0 rfl 1
  have hf2 := HF.out.frozenN 0 rfl 2
  have hd0 := HF.out.cellN 0 rfl 0 rfl
  have hd1 := HF.out.cellN 0 rfl 1 rfl
  have hd2 := HF.out.cellN 0 rfl 2 rfl
  refine skip_ (w1 := ?_) (by rfl) rfl ?_ ?_
  rotate_left
  · go_simp
    rfl
  have HE := Lib.hid (end_rat (q := p) (B := B2) (d := d2) HF.out (by simp) (by simp) (by omega) Q2.out.num Q2.out.den rfl)
  replace HF := Lib.hid (HF.out.put3 0 rfl (by omega) (by simp) (.bool (decide (p.num < 0))) (.slice A2 (dg p.num.natAbs).length c2) (.slice B2 (dg p.den).length d2))
  refine hK.out _ _ ⟨HF.out.cellN 2 rfl 0 rfl, HF.out.cellN 2 rfl 1 rfl, HF.out.cellN 2 rfl 2 rfl, HF.out.cellN 1 rfl 0 rfl, HF.out.cellN 1 rfl 1 rfl, HF.out.cellN 1 rfl 2 rfl⟩ (fun hHeld => ?_)
  clear hK K
  refine done_ (by kernel_rfl) ?_
  generalize decide (p.num < 0) = b at HE ⊢
  go_wp2
  obtain ⟨f1, f2⟩ := HE.out
  exact post_own f2 rfl rfl rfl Try.underlying31 rfl (by kernel_rfl) f1

set_option maxHeartbeats 1000000 in
set_option maxRecDepth 100000 in
theorem r3_Cmp (s : Bool) (A : Option Addr) (c : Nat) (xs : List Int) (B : Option Addr) (d : Nat) (ys : List Int) (t : Bool) (E : Option Addr) (j : Nat) (us : List Int) (G : Option Addr) (l : Nat) (vs : List Int) (w : World) (h1 : In w A c xs) (m1 : xs.length ≤ 137438953471) (h2 : In w B d ys) (m2 : ys.length ≤ 137438953471) (h3 : In w E j us) (m3 : us.length ≤ 137438953471) (h4 : In w G l vs) (m4 : vs.length ≤ 137438953471)
    (hq : (dg (rv s xs ys + - rv t us vs).num.natAbs).length ≤ 549755813888) (hq2 : (dg (rv s xs ys + - rv t us vs).den).length ≤ 549755813888) :
    Calls Try.prog 50 #[.agg #[.bool s, .slice A xs.length c, .slice B ys.length d], .agg #[.bool t, .slice E us.length j, .slice G vs.length l]] w fun e w' => e = .returned (.int .i64 (sgn (rv s xs ys + - rv t us vs).num)) ∧ Below w.heap.size w w' := by
  have hS := Lib.hid (fun (W : World) (hb : Below w.heap.size w W) => r3_Sub s A c xs B d ys t E j us G l vs W (h1.below hb) m1 (h2.below hb) m2 (h3.below hb) m3 (h4.below hb) m4)
  generalize rv s xs ys + - rv t us vs = p at *
  have hT := Lib.hid (fun (W : World) (A1 : Option Addr) (c1 : Nat) (B1 : Option Addr) (d1 : Nat) (k : InQ W A1 c1 B1 d1 p) => r3_Sign (decide (p.num < 0)) A1 c1 _ B1 d1 _ W k.num hq k.den hq2)
  simp only [rv_can] at hT
  clear h1 h2 h3 h4
  have HF := Lib.hid (((Fr.refl w).box [.bool s, .slice A xs.length c, .slice B ys.length d] 31).box [.bool t, .slice E us.length j, .slice G vs.length l] 31)
  have hsz : (w.alloc (.cells #[.bool s, .slice A xs.length c, .slice B ys.length d] 31)).heap.size = w.heap.size + 1 := by simp
  rw [show [Value.bool s, Value.slice A xs.length c, Value.slice B ys.length d].toArray = #[Value.bool s, Value.slice A xs.length c, Value.slice B ys.length d] from rfl, hsz, show [Value.bool t, Value.slice E us.length j, Value.slice G vs.length l].toArray = #[Value.bool t, Value.slice E us.length j, Value.slice G vs.length l] from rfl] at HF
  clear hsz
  go_enter Try.func50, Try.ntmps50
  go_wp2_with fail
  refine (hS.out _ HF.out.bel).mono ?_
  rintro e W1 ⟨A1, c1, B1, d1, rfl, q1, q2, q3⟩
  replace HF := Lib.hid (HF.out.below q3)
  have Q1 := Lib.hid (InQ.mk q1 q2)
  clear q1 q2 q3 hS
  go_wp2_with fail
  refine (hT.out W1 A1 c1 B1 d1 Q1.out).mono ?_
  rintro e W2 ⟨rfl, hb⟩
  replace HF := Lib.hid (HF.out.below hb)
  clear hb hT
  go_wp2
  go_ret
  exact ⟨rfl, HF.out.bel⟩
end Go.Proofs.Ytchdoignomidjaa.F
/- Forms as they are handed in, appended: rows of terms whose numbers are as they are; the walks of ref06.Add and Sub, linear.Sub. -/
set_option linter.unusedVariables false
set_option linter.unusedSimpArgs false
namespace Go.Proofs.Ytchdoignomidjaa.F
open Go.RowKit Go.Shelf Go.Proofs.YtchdoignomidjaaW.PrintLast

/-- a term in cells, as it is handed in -/
structure RC where
  v : Int
  s : Bool
  A : Option Addr
  c : Nat
  xs : List Int
  B : Option Addr
  d : Nat
  ys : List Int
def RC.cells (r : RC) : List Value := [.int .i64 r.v, .bool r.s, .slice r.A r.xs.length r.c, .slice r.B r.ys.length r.d]
def RC.val (r : RC) : Int × RatD := (r.v, (r.s, r.xs), r.ys)
structure RC.At (w : World) (r : RC) : Prop where
  lies : LiesQ w ((r.s, r.xs), r.ys) r.A r.c r.B r.d
  nx : r.xs.length ≤ 9223372036854775807
  ny : r.ys.length ≤ 9223372036854775807
theorem RC.At.keep {w w' : World} {r : RC} (h : r.At w) (hk : KeepU w w') : r.At w' := ⟨⟨h.lies.1, h.lies.2.1, h.lies.2.2.1.keep hk, h.lies.2.2.2.keep hk⟩, h.nx, h.ny⟩

theorem rflat_at (rs : List RC) (i j : Nat) (u : Value) (h : i < rs.length) (hu : rs[i].cells[j]? = some u) : (rs.flatMap RC.cells)[i * 4 + j]? = some u := by
  induction rs generalizing i with
  | nil => simp at h
  | cons r rs ih =>
    rw [List.flatMap_cons]
    cases i with
    | zero =>
      rw [Nat.zero_mul, Nat.zero_add, List.getElem?_append_left]
      · exact hu
      · exact (List.getElem?_eq_some_iff.1 hu).1
    | succ i =>
      rw [List.getElem?_append_right (by show 4 ≤ _; omega)]
      rw [show (i + 1) * 4 + j - r.cells.length = i * 4 + j by show _ - 4 = _; omega]
      exact ih i (by simpa using h) (by simpa using hu)
theorem rflat_len (rs : List RC) : (rs.flatMap RC.cells).length = rs.length * 4 := by
  induction rs with
  | nil => rfl
  | cons r rs ih => rw [List.flatMap_cons, List.length_append, ih, List.length_cons, show r.cells.length = 4 from rfl]; omega
theorem rflat_get (rs : List RC) (k : Nat) (u : Value) (hu : (rs.flatMap RC.cells)[k]? = some u) : ∃ (i j : Nat) (h : i < rs.length), k = i * 4 + j ∧ rs[i].cells[j]? = some u := by
  have hk := (List.getElem?_eq_some_iff.1 hu).1
  rw [rflat_len] at hk
  have hi : k / 4 < rs.length := by omega
  have hj : k % 4 < rs[k / 4].cells.length := by show _ < 4; omega
  refine ⟨k / 4, k % 4, hi, by omega, ?_⟩
  have := rflat_at rs (k / 4) (k % 4) _ hi (List.getElem?_eq_getElem hj)
  rw [show k / 4 * 4 + k % 4 = k by omega, hu] at this
  rw [List.getElem?_eq_getElem hj, ← this]
theorem rcells_noU (r : RC) : NoU r.cells := fun y hy => by
  simp [RC.cells] at hy
theorem rflat_noU (rs : List RC) : NoU (rs.flatMap RC.cells) := fun y hy => by
  obtain ⟨r, _, h⟩ := List.mem_flatMap.1 hy
  exact rcells_noU r y h
theorem rflat_one (rs : List RC) : ∀ u ∈ rs.flatMap RC.cells, u.oneCell' = true := fun u hu => by
  obtain ⟨r, _, h⟩ := List.mem_flatMap.1 hu
  simp only [RC.cells, List.mem_cons, List.not_mem_nil, or_false] at h
  rcases h with rfl | rfl | rfl | rfl <;> rfl

theorem kMono_rc {w : World} {r : RC} (h : r.At w) : kMono.C w r.val r.cells :=
  ⟨[_], [_, _, _], rfl, rfl, [_, _], [_], rfl, ⟨[_], [_], rfl, rfl, r.A, r.c, rfl, h.lies.1, h.nx, h.lies.2.2.1⟩, r.B, r.d, rfl, h.lies.2.1, h.ny, h.lies.2.2.2⟩
theorem row_raw {w : World} {A : Option Addr} {rs : List RC} {f : List (Int × RatD)} (hl : rs.map RC.val = f) (hr : ∀ r ∈ rs, r.At w) (hc : 0 < f.length → ∃ ad, A = some ad ∧ ∀ j u, (rs.flatMap RC.cells)[j]? = some u → w.cell? (ad.add j) = some u) : kMono.Row w A f := by
  subst hl
  intro i hi
  have hi' : i < rs.length := by simpa using hi
  obtain ⟨ad, rfl, h⟩ := hc (by simp; omega)
  refine ⟨ad, rs[i].cells, rfl, ?_, fun j u hu => h _ u (rflat_at rs i j u hi' hu)⟩
  simp only [List.getElem_map]
  exact kMono_rc (hr _ (List.getElem_mem hi'))
theorem raw_flat {w : World} {A : Option Addr} {f : List (Int × RatD)} (h : kMono.Row w A f) (hg : ∀ m ∈ f, m.2.1.2.length ≤ 9223372036854775807 ∧ m.2.2.length ≤ 9223372036854775807) : ∃ rs : List RC, rs.map RC.val = f ∧ (∀ r ∈ rs, r.At w) ∧ (0 < f.length → ∃ ad, A = some ad ∧ ∀ j u, (rs.flatMap RC.cells)[j]? = some u → w.cell? (ad.add j) = some u) := by
  have each : ∀ i, (hi : i < f.length) → ∃ r : RC, r.val = f[i] ∧ r.At w ∧ ∃ ad, A = some ad ∧ ∀ j u, r.cells[j]? = some u → w.cell? (ad.add (i * 4 + j)) = some u := by
    intro i hi
    obtain ⟨ad, cs, e, hC, hc⟩ := h i hi
    obtain ⟨c1, c2, rfl, h1, h2⟩ := hC
    have h1' : c1 = [.int .i64 (f[i]).1] := h1
    subst h1'
    obtain ⟨B, c, D, d, rfl, hq⟩ := kRat_cells h2
    have hm := hg _ (List.getElem_mem hi)
    exact ⟨⟨(f[i]).1, (f[i]).2.1.1, B, c, (f[i]).2.1.2, D, d, (f[i]).2.2⟩, rfl, ⟨hq, hm.1, hm.2⟩, ad, e, hc⟩
  have : ∃ rs : List RC, rs.length = f.length ∧ ∀ i (h : i < rs.length) (h' : i < f.length), (rs[i]).val = f[i] ∧ (rs[i]).At w ∧ ∃ ad, A = some ad ∧ ∀ j u, (rs[i]).cells[j]? = some u → w.cell? (ad.add (i * 4 + j)) = some u := by
    refine ⟨(List.range f.length).attach.map fun i => (each i.1 (List.mem_range.1 i.2)).choose, by simp, fun i hi hi' => ?_⟩
    simp only [List.getElem_map, List.getElem_attach, List.getElem_range]
    exact (each i hi').choose_spec
  obtain ⟨rs, hl, hx⟩ := this
  refine ⟨rs, List.ext_getElem (by simpa using hl) fun i h1 h2 => ?_, fun r hr => ?_, fun h0 => ?_⟩
  · simp only [List.getElem_map]
    exact (hx i (by simpa using h1) h2).1
  · obtain ⟨i, hi, rfl⟩ := List.getElem_of_mem hr
    exact (hx i hi (by omega)).2.1
  · obtain ⟨_, _, ad, rfl, _⟩ := hx 0 (by omega) h0
    refine ⟨ad, rfl, fun k u hu => ?_⟩
    obtain ⟨i, j, hi, rfl, hj⟩ := rflat_get rs k u hu
    obtain ⟨_, _, ad', e, hc⟩ := hx i hi (by omega)
    cases e
    exact hc j u hj

/-- terms as they were handed in, in a row of the call's own -/
def OwnW (w : World) (B : Nat) (v : Value) (f : List (Int × RatD)) : Prop := ∃ rs : List RC, rs.map RC.val = f ∧ OwnL w B 75 4 v f.length (rs.flatMap RC.cells) ∧ ∀ r ∈ rs, r.At w
theorem OwnW.nil (w : World) (B : Nat) : OwnW w B (.slice none 0 0) [] := ⟨[], rfl, OwnL.nil _ _ _ _, fun r h => by cases h⟩
theorem OwnW.fin {w : World} {B : Nat} {v : Value} {f : List (Int × RatD)} (h : OwnW w B v f) : ∃ A c, v = .slice A f.length c ∧ kMono.Row w A f ∧ f.length ≤ c := by
  obtain ⟨rs, h1, h2, h3⟩ := h
  obtain ⟨A, c, rfl, hc, _, h4⟩ := h2.form
  exact ⟨A, c, rfl, row_raw h1 h3 h4, hc⟩
theorem pushW {w : World} {B : Nat} {t ty : TypeId} {v : Value} {f g : List (Int × RatD)} {A : Option Addr} {c : Nat} (ht : Try.prog.underlying t = some (.slice 75)) (h : OwnW w B v f) (k : kMono.Row w A g) (hg : ∀ m ∈ g, m.2.1.2.length ≤ 9223372036854775807 ∧ m.2.2.length ≤ 9223372036854775807) (hl : f.length + g.length ≤ 1099511627776) (hB : B ≤ w.heap.size) :
    ∃ v' w', (Builtin.append_ #[t, t] ty #[v, .slice A g.length c]).run Try.prog w = .ok v' w' ∧ OwnW w' B v' (f ++ g) ∧ Soft B v w w' := by
  obtain ⟨rs, h1, h2, h3⟩ := h
  obtain ⟨ss, k1, k2, k3⟩ := raw_flat k hg
  have e1 : f.length = rs.length := by rw [← h1]; simp
  have e2 : g.length = ss.length := by rw [← k1]; simp
  obtain ⟨v', w', h4, h5, h6⟩ := push_any (ty := ty) (c := c) ht (z := .agg #[.int .i64 0, .bool false, .slice none 0 0, .slice none 0 0]) (sz := 4) (bytes := 64) (by kernel_rfl) (by rfl) h2 (by rw [rflat_len, e2]) k3 (rflat_one ss) (rflat_noU ss) (by intro y hy; simp [Value.cells] at hy) (by simp only [maxLen]; omega) (by omega) hB
  refine ⟨v', w', h4, ⟨rs ++ ss, by rw [List.map_append, h1, k1], ?_, fun r hr => ?_⟩, h6⟩
  · rw [List.flatMap_append, List.length_append]; exact h5
  · rcases List.mem_append.1 hr with hr | hr
    · exact (h3 r hr).keep h6.keep
    · exact (k2 r hr).keep h6.keep
theorem fval_append (f g : List (Int × RatD)) : fval (f ++ g) = fval f ++ fval g := by unfold fval; rw [List.map_append]
theorem nform_app (f g : Frm) : nform (f ++ nform g) = nform (f ++ g) := (nform_eq (nform_Nf _) fun v => by rw [co_nform, co_append, co_append, co_nform])
theorem FRaw.small {w : World} {A : Option Addr} {c : Nat} {f : List (Int × RatD)} (h : FRaw w A c f) : ∀ m ∈ f, m.2.1.2.length ≤ 9223372036854775807 ∧ m.2.2.length ≤ 9223372036854775807 := fun m hm => by
  have h1 := (h.good m hm).mn
  have h2 := (h.good m hm).md
  have h3 : wtm m ≤ (f.map wtm).sum := le_sum hm
  have h4 := wt_le m
  have h5 := h.sum
  omega

set_option maxHeartbeats 1000000 in
set_option maxRecDepth 100000 in
theorem r6_Add (A : Option Addr) (c : Nat) (f : List (Int × RatD)) (B : Option Addr) (d : Nat) (g : List (Int × RatD)) (w : World) (hf : FRaw w A c f) (hg : FRaw w B d g) (hs : (f.map wtm).sum + (g.map wtm).sum ≤ 137438953471) :
    Calls Try.prog 39 #[.slice A f.length c, .slice B g.length d] w (ToldFm w (nform (fval f ++ fval g))) := by
  have hlf := hf.len
  have hlg := hg.len
  obtain ⟨v1, W1, hp1, ho1, hs1⟩ := pushW (t := 23) (ty := 23) (c := c) Try.underlying23 (OwnW.nil w w.heap.size) hf.row hf.small (by simp; omega) (Nat.le_refl _)
  rw [List.nil_append] at ho1
  have hw1 := hs1.below.size
  obtain ⟨v2, W2, hp2, ho2, hs2⟩ := pushW (t := 23) (ty := 23) (c := d) Try.underlying23 ho1 (hg.row.below hs1.below) hg.small (by omega) hw1
  have HB := Lib.hid (hs1.below.trans hs2.below)
  have hw2 := HB.out.size
  obtain ⟨A2, c2, rfl, hr2, hc2⟩ := ho2.fin
  have hN := Lib.hid (r6_Norm A2 c2 (f ++ g) W2 ⟨hr2, hc2, fun m hm => by
    rcases List.mem_append.1 hm with hm | hm
    · exact hf.good m hm
    · exact hg.good m hm, by rw [List.map_append, List.sum_append]; omega⟩)
  rw [fval_append] at hN
  generalize f ++ g = fg at *
  clear hf hg hs ho1 ho2 hs1 hs2 hr2
  generalize nform (fval f ++ fval g) = l at *
  go_enter Try.func39, Try.ntmps39
  have HP1 := Lib.hid hp1
  have HP2 := Lib.hid hp2
  clear hp1 hp2
  go_wp2_with (first | (refine pushL_ rfl rfl rfl rfl HP1.out ?_; clear HP1) | (refine pushL_ rfl rfl rfl rfl HP2.out ?_; clear HP2))
  refine hN.out.mono ?_
  rintro e W3 ⟨v, rfl, h1, h2⟩
  have HO := Lib.hid (h1.mono hw2)
  replace HB := Lib.hid (HB.out.trans (h2.mono hw2))
  clear h1 h2 hN
  go_wp2
  go_ret
  exact ⟨_, rfl, HO.out, HB.out⟩

/-- the form less so many times another -/
theorem smul_len2 (q : Rat) (g : List (Int × RatD)) : (nform (smul q (fval g))).length ≤ g.length := by have := nform_len (smul q (fval g)); rwa [smul_length, fval_length] at this

set_option maxHeartbeats 1000000 in
set_option maxRecDepth 100000 in
theorem r6_Sub (A : Option Addr) (c : Nat) (f : List (Int × RatD)) (B : Option Addr) (d : Nat) (g : List (Int × RatD)) (w : World) (hf : FRaw w A c f) (hg : FRaw w B d g) (hs : (f.map wtm).sum + 2 * mf (fval g) + 7 * g.length ≤ 137438953470) :
    Calls Try.prog 40 #[.slice A f.length c, .slice B g.length d] w (ToldFm w (nform (fval f ++ smul (-1) (fval g)))) := by
  have hlf := hf.len
  have hlg := hg.len
  obtain ⟨q, hq⟩ : ∃ q : Rat, q = -1 := ⟨_, rfl⟩
  have hW := Lib.hid (r3_Whole (-1) w (by omega) (by omega))
  rw [show (((-1 : Int)) : Rat) = -1 from rfl, ← hq] at hW
  have hmu : mu q ≤ 1 := by rw [hq]; exact mu_int (n := -1) (by decide)
  have hmf := mf_smul q (fval g)
  rw [fval_length] at hmf
  have hmn := mf_nform (smul q (fval g))
  have hml : g.length * mu q ≤ g.length * 1 := Nat.mul_le_mul_left _ hmu
  have hll := smul_len2 q g
  have hqn := mu_len q
  have hS := Lib.hid (fun (W : World) (hb : Below w.heap.size w W) (A1 : Option Addr) (c1 : Nat) (B1 : Option Addr) (d1 : Nat) (k1 : In W A1 c1 (dg q.num.natAbs)) (k2 : In W B1 d1 (dg q.den)) => r6_Scale (decide (q.num < 0)) A1 c1 _ B1 d1 _ B d g W k1 (by omega) k2 (by omega) (hg.below hb) (by rw [rv_can]; omega))
  simp only [rv_can] at hS
  have hA := Lib.hid (show ∀ (W : World) (A1 : Option Addr) (c1 : Nat), Below w.heap.size w W → FIn W A1 c1 (nform (smul q (fval g))) → Calls Try.prog 39 #[.slice A f.length c, .slice A1 (nform (smul q (fval g))).length c1] W (ToldFm W (nform (fval f ++ smul q (fval g)))) from fun W A1 c1 hb k => by
    have h1 := wtm_can (nform (smul q (fval g)))
    have h2 := r6_Add A c f A1 c1 _ W (hf.below hb) (k.raw (by omega)) (by omega)
    rw [fval_can, nform_app, List.length_map] at h2
    exact h2)
  rw [← hq]
  clear hf hg hs hq hmu hmf hml hmn
  generalize nform (fval f ++ smul q (fval g)) = l at *
  generalize nform (smul q (fval g)) = m at *
  go_enter Try.func40, Try.ntmps40
  go_wp2_with fail
  refine hW.out.mono ?_
  rintro e W1 ⟨A1, c1, B1, d1, rfl, q1, q2, q3⟩
  have HB := Lib.hid q3
  have Q1 := Lib.hid q1
  have Q2 := Lib.hid q2
  clear q1 q2 q3 hW
  go_wp2_with fail
  refine (hS.out W1 HB.out A1 c1 B1 d1 Q1.out Q2.out).mono ?_
  rintro e W2 ⟨v, rfl, h1, h2⟩
  obtain ⟨A2, c2, rfl, h3⟩ := h1.fin
  have Q := Lib.hid h3
  replace HB := Lib.hid (HB.out.trans (h2.mono HB.out.size))
  clear h1 h2 h3 hS Q1 Q2
  go_wp2_with fail
  refine (hA.out W2 A2 c2 HB.out Q.out).mono ?_
  rintro e W3 ⟨v, rfl, h1, h2⟩
  have HO := Lib.hid (h1.mono HB.out.size)
  replace HB := Lib.hid (HB.out.trans (h2.mono HB.out.size))
  clear h1 h2 hA
  go_wp2
  go_ret
  exact ⟨_, rfl, HO.out, HB.out⟩

set_option maxHeartbeats 1000000 in
set_option maxRecDepth 100000 in
theorem linear_Sub (A : Option Addr) (c : Nat) (f : List (Int × RatD)) (B : Option Addr) (d : Nat) (g : List (Int × RatD)) (w : World) (hf : FRaw w A c f) (hg : FRaw w B d g) (hs : (f.map wtm).sum + 2 * mf (fval g) + 7 * g.length ≤ 137438953470) :
    Calls Try.prog 28 #[.slice A f.length c, .slice B g.length d] w (ToldFm w (nform (fval f ++ smul (-1) (fval g)))) := by
  have hlf := hf.len
  have hlg := hg.len
  obtain ⟨q, hq⟩ : ∃ q : Rat, q = -1 := ⟨_, rfl⟩
  have hW := Lib.hid (ratio_Whole (-1) w (by omega) (by omega))
  rw [show (((-1 : Int)) : Rat) = -1 from rfl, ← hq] at hW
  have hmu : mu q ≤ 1 := by rw [hq]; exact mu_int (n := -1) (by decide)
  have hmf := mf_smul q (fval g)
  rw [fval_length] at hmf
  have hmn := mf_nform (smul q (fval g))
  have hml : g.length * mu q ≤ g.length * 1 := Nat.mul_le_mul_left _ hmu
  have hll := smul_len2 q g
  have hqn := mu_len q
  have hS := Lib.hid (fun (W : World) (hb : Below w.heap.size w W) (A1 : Option Addr) (c1 : Nat) (B1 : Option Addr) (d1 : Nat) (k1 : In W A1 c1 (dg q.num.natAbs)) (k2 : In W B1 d1 (dg q.den)) => linear_Scale (decide (q.num < 0)) A1 c1 _ B1 d1 _ B d g W k1 (by omega) k2 (by omega) (hg.below hb) (fun v => by
    rw [rv_can]
    have h1 := mu_mul q (co (fval g) v)
    have h2 := mu_co (fval g) v
    exact mu_ql (by omega)))
  simp only [rv_can] at hS
  have hA := Lib.hid (show ∀ (W : World) (A1 : Option Addr) (c1 : Nat), Below w.heap.size w W → FIn W A1 c1 (nform (smul q (fval g))) → Calls Try.prog 27 #[.slice A f.length c, .slice A1 (nform (smul q (fval g))).length c1] W (ToldFm W (nform (fval f ++ smul q (fval g)))) from fun W A1 c1 hb k => by
    have h1 := wtm_can (nform (smul q (fval g)))
    have h2 := linear_Add A c f A1 c1 _ W (hf.below hb) (k.raw (by omega)) (by omega)
    rw [fval_can, nform_app, List.length_map] at h2
    exact h2)
  rw [← hq]
  clear hf hg hs hq hmu hmf hml hmn
  generalize nform (fval f ++ smul q (fval g)) = l at *
  generalize nform (smul q (fval g)) = m at *
  go_enter Try.func28, Try.ntmps28
  go_wp2_with fail
  refine hW.out.mono ?_
  rintro e W1 ⟨A1, c1, B1, d1, rfl, q1, q2, q3⟩
  have HB := Lib.hid q3
  have Q1 := Lib.hid q1
  have Q2 := Lib.hid q2
  clear q1 q2 q3 hW
  go_wp2_with fail
  refine (hS.out W1 HB.out A1 c1 B1 d1 Q1.out Q2.out).mono ?_
  rintro e W2 ⟨v, rfl, h1, h2⟩
  obtain ⟨A2, c2, rfl, h3⟩ := h1.fin
  have Q := Lib.hid h3
  replace HB := Lib.hid (HB.out.trans (h2.mono HB.out.size))
  clear h1 h2 h3 hS Q1 Q2
  go_wp2_with fail
  refine (hA.out W2 A2 c2 HB.out Q.out).mono ?_
  rintro e W3 ⟨v, rfl, h1, h2⟩
  have HO := Lib.hid (h1.mono HB.out.size)
  replace HB := Lib.hid (HB.out.trans (h2.mono HB.out.size))
  clear h1 h2 hA
  go_wp2
  go_ret
  exact ⟨_, rfl, HO.out, HB.out⟩
end Go.Proofs.Ytchdoignomidjaa.F
/- The walks of Vars: the reference's and linear's; of sameInts where both rows are equal. -/
set_option linter.unusedVariables false
set_option linter.unusedSimpArgs false
namespace Go.Proofs.Ytchdoignomidjaa.F
open Go.RowKit Go.Shelf Go.Proofs.YtchdoignomidjaaW.PrintLast

/-- a form's variables -/
def fsv (l : Frm) : List Int := l.map fun m => m.1
theorem fsv_length (l : Frm) : (fsv l).length = l.length := by unfold fsv; rw [List.length_map]
theorem fsv_succ (l : Frm) (i : Nat) (h : i < l.length) : fsv (l.take (i + 1)) = fsv (l.take i) ++ [(l[i]).1] := by
  rw [List.take_succ_eq_append_getElem h]
  unfold fsv
  rw [List.map_append]
  rfl
/-- a row of numbers of the call's own -/
def ToldIs (w : World) (xs : List Int) (e : Ending) (w' : World) : Prop := ∃ v, e = .returned v ∧ OwnI w' w.heap.size v xs ∧ Below w.heap.size w w'

set_option maxHeartbeats 1000000 in
set_option maxRecDepth 100000 in
theorem r6_Vars (A : Option Addr) (c : Nat) (f : List (Int × RatD)) (w : World) (h : FRaw w A c f) :
    Calls Try.prog 45 #[.slice A f.length c] w (ToldIs w (fsv (nform (fval f)))) := by
  have hlen := h.len
  have hAll := Lib.hid (r6_Norm A c f w h)
  have hvl : (nform (fval f)).length ≤ f.length := by have := nform_len (fval f); rwa [fval_length] at this
  clear h
  generalize nform (fval f) = l at *
  go_enter Try.func45, Try.ntmps45
  go_wp2_with fail
  refine hAll.out.mono ?_
  rintro e W1 ⟨v, rfl, h1, h2⟩
  obtain ⟨A1, c1, rfl, h3⟩ := h1.fin
  have Q0 := Lib.hid h3
  have HB1 := Lib.hid h2
  have hw1 := HB1.out.size
  clear h1 h2 h3 hAll
  go_wp2
  go_loopg [3, 5] l.length (fun gg s3 s5 wr => ∃ (i : Nat) (v : Value), i + gg = l.length ∧ s5 = .int .i64 i ∧ v = s3 ∧ Hid (OwnI wr W1.heap.size v (fsv (l.take i))) ∧ Hid (Below W1.heap.size W1 wr))
  case atStart => exact ⟨0, _, by omega, rfl, rfl, OwnI.nil _ _, Below.refl _ _⟩
  case round =>
    obtain ⟨i, v, hg, rfl, rfl, HO, HB⟩ := hrel
    by_cases hlt : i < l.length
    · have hltz : (i : Int) < (l.length : Int) := by omega
      have HS := Lib.hid (fsv_succ l i hlt)
      obtain ⟨ad, r, rfl, hvq, hat, i1, i2, i3, i4⟩ := (Q0.out.below HB.out).at_ i hlt
      rw [← hvq] at HS
      have hvl2 : (fsv (l.take i)).length = i := by rw [fsv_length, List.length_take]; omega
      obtain ⟨u, q, A2, c2, B2, d2⟩ := r
      dsimp only at i1 i2 i3 i4
      replace HS : Hid (fsv (l.take (i + 1)) = fsv (l.take i) ++ [u]) := HS
      clear hat hvq
      have hal := Lib.hid ((Below.refl _ wr).alloc (Nat.le_refl _) (.cells #[.int .i64 u] 3))
      obtain ⟨v', w', hrun, hO', hS⟩ := pushI (t := 40) (ty := 40) (y := u) Try.underlying40 (HO.out.below hal.out) (Own.mk (w := wr) [.int .i64 u] 3) (by omega) (Nat.le_trans HB.out.size (by simp))
      have HP := Lib.hid hrun
      have HO2 := Lib.hid hO'
      have HB2 := Lib.hid ((HB.out.alloc HB.out.size (.cells #[.int .i64 u] 3)).trans hS)
      rw [← HS.out] at HO2
      clear hrun hO' hS hal HS hvl2 HO
      go_wp2_with (refine pushL_ rfl rfl rfl rfl HP.out ?_)
      go_roundg (l.length - (i + 1))
      case measure => omega
      case rel => exact ⟨i + 1, v', by omega, by go_num, rfl, HO2, HB2⟩
    · have hltz : ¬ (i : Int) < (l.length : Int) := by omega
      have HO2 := Lib.hid (show OwnI wr w.heap.size _ (fsv l) by have := HO.out.mono hw1; rwa [List.take_of_length_le (by omega)] at this)
      have HB2 := Lib.hid (HB1.out.trans (HB.out.mono hw1))
      clear HO HB
      go_wp2
      go_ret
      exact ⟨_, rfl, HO2.out, HB2.out⟩

set_option maxHeartbeats 1000000 in
set_option maxRecDepth 100000 in
theorem linear_Vars (A : Option Addr) (c : Nat) (f : List (Int × RatD)) (w : World) (h : FRaw w A c f) :
    Calls Try.prog 44 #[.slice A f.length c] w (ToldIs w (fsv (nform (fval f)))) := by
  have hlen := h.len
  have hAll := Lib.hid (linear_Norm f.length A c f w (Nat.le_refl _) h)
  have hvl : (nform (fval f)).length ≤ f.length := by have := nform_len (fval f); rwa [fval_length] at this
  clear h
  generalize nform (fval f) = l at *
  go_enter Try.func44, Try.ntmps44
  go_wp2_with fail
  refine hAll.out.mono ?_
  rintro e W1 ⟨v, rfl, h1, h2⟩
  obtain ⟨A1, c1, rfl, h3⟩ := h1.fin
  have Q0 := Lib.hid h3
  have HB1 := Lib.hid h2
  have hw1 := HB1.out.size
  clear h1 h2 h3 hAll
  go_wp2
  go_loopg [3, 9] l.length (fun gg s3 s9 wr => ∃ (i : Nat) (v : Value), i + gg = l.length ∧ s9 = .int .i64 i ∧ v = s3 ∧ Hid (OwnI wr W1.heap.size v (fsv (l.take i))) ∧ Hid (Below W1.heap.size W1 wr))
  case atStart => exact ⟨0, _, by omega, rfl, rfl, OwnI.nil _ _, Below.refl _ _⟩
  case round =>
    obtain ⟨i, v, hg, rfl, rfl, HO, HB⟩ := hrel
    by_cases hlt : i < l.length
    · have hltz : (i : Int) < (l.length : Int) := by omega
      have HS := Lib.hid (fsv_succ l i hlt)
      obtain ⟨ad, r, rfl, hvq, hat, i1, i2, i3, i4⟩ := (Q0.out.below HB.out).at_ i hlt
      rw [← hvq] at HS
      have hvl2 : (fsv (l.take i)).length = i := by rw [fsv_length, List.length_take]; omega
      obtain ⟨u, q, A2, c2, B2, d2⟩ := r
      dsimp only at i1 i2 i3 i4
      replace HS : Hid (fsv (l.take (i + 1)) = fsv (l.take i) ++ [u]) := HS
      clear hat hvq
      have hal0 := Lib.hid ((Below.refl _ wr).alloc (Nat.le_refl _) (.cells #[.int .i64 u, .bool (decide (q.num < 0)), .slice A2 (dg q.num.natAbs).length c2, .slice B2 (dg q.den).length d2] 75))
      have hal := Lib.hid ((Below.refl _ (wr.alloc (.cells #[.int .i64 u, .bool (decide (q.num < 0)), .slice A2 (dg q.num.natAbs).length c2, .slice B2 (dg q.den).length d2] 75))).alloc (Nat.le_refl _) (.cells #[.int .i64 u] 3))
      obtain ⟨v', w', hrun, hO', hS⟩ := pushI (t := 40) (ty := 40) (y := u) Try.underlying40 ((HO.out.below hal0.out).below hal.out) (Own.mk (w := (wr.alloc (.cells #[.int .i64 u, .bool (decide (q.num < 0)), .slice A2 (dg q.num.natAbs).length c2, .slice B2 (dg q.den).length d2] 75))) [.int .i64 u] 3) (by omega) (Nat.le_trans HB.out.size (by simp; omega))
      rw [show (wr.alloc (.cells #[.int .i64 u, .bool (decide (q.num < 0)), .slice A2 (dg q.num.natAbs).length c2, .slice B2 (dg q.den).length d2] 75)).heap.size = wr.heap.size + 1 by simp] at hrun
      have HP := Lib.hid hrun
      have HO2 := Lib.hid hO'
      have HB2 := Lib.hid (((HB.out.trans (hal0.out.mono HB.out.size)).trans (hal.out.mono (Nat.le_trans HB.out.size hal0.out.size))).trans hS)
      rw [← HS.out] at HO2
      clear hrun hO' hS hal HS hvl2 HO hal0
      go_wp2_with (refine pushL_ rfl rfl rfl rfl HP.out ?_)
      go_roundg (l.length - (i + 1))
      case measure => omega
      case rel => exact ⟨i + 1, v', by omega, by go_num, rfl, HO2, HB2⟩
    · have hltz : ¬ (i : Int) < (l.length : Int) := by omega
      have HO2 := Lib.hid (show OwnI wr w.heap.size _ (fsv l) by have := HO.out.mono hw1; rwa [List.take_of_length_le (by omega)] at this)
      have HB2 := Lib.hid (HB1.out.trans (HB.out.mono hw1))
      clear HO HB
      go_wp2
      go_ret
      exact ⟨_, rfl, HO2.out, HB2.out⟩

set_option maxHeartbeats 1000000 in
set_option maxRecDepth 100000 in
theorem same_Ints (A : Option Addr) (c : Nat) (B : Option Addr) (d : Nat) (xs : List Int) (w : World) (h : (Knd.int .i64).Row w A xs) (hc : xs.length ≤ c) (k : (Knd.int .i64).Row w B xs) (kc : xs.length ≤ d) (hm : xs.length ≤ 1099511627776) :
    Calls Try.prog 43 #[.slice A xs.length c, .slice B xs.length d] w (Decides w true) := by
  have H := Lib.hid h
  have K := Lib.hid k
  clear h k
  go_enter Try.func43, Try.ntmps43
  go_wp2
  go_loopg [5] xs.length (fun gg s5 wr => ∃ i : Nat, i + gg = xs.length ∧ s5 = .int .i64 i ∧ Hid (Below w.heap.size w wr))
  case atStart => exact ⟨0, by omega, rfl, Below.refl _ _⟩
  case round =>
    obtain ⟨i, hg, rfl, HB⟩ := hrel
    by_cases hlt : i < xs.length
    · have hltz : (i : Int) < (xs.length : Int) := by omega
      obtain ⟨ad, rfl, h1⟩ := Knd.at_int H.out i hlt
      obtain ⟨bd, rfl, h2⟩ := Knd.at_int K.out i hlt
      generalize xs[i] = x at *
      have HF : Hid (Fr w wr []) := ⟨HB.out, fun b hb => by cases hb⟩
      clear HB
      go_wp2_with fail
      have HF_ := Lib.hid HF.out.drew
      clear HF
      have HF := HF_
      clear HF_
      refine start_ (n := 9) (S := fun w' => w'.cell? (ad.add i) = some (.int .i64 x) ∧ w'.cell? (bd.add i) = some (.int .i64 x)) (ds := []) #[false, false, false, false, false, false, false, false, false] (by kernel_rfl) rfl rfl ⟨cell_below HF.out.bel h1, cell_below HF.out.bel h2⟩ (fun hHeld => ?_)
      generalize World.drew _ = W at *
      refine pure_ (i := 0) (N := (some 17)) (v := ?_) (a' := ?_) #[true, false, false, false, false, false, false, false, false] rfl rfl (by kernel_rfl) (fun _ _ _ h => h) (Or.inl ⟨by rfl, ?_⟩) ?_ ?_
      rotate_left
      · intro w'
        go_simp
        with_reducible rfl
      rotate_left
      · simp only [Act.put, List.setIfInBounds_toArray, List.set_cons_zero, List.set_cons_succ]
        rfl
      refine pure_ (i := 1) (N := (some 18)) (v := ?_) (a' := ?_) #[true, true, false, false, false, false, false, false, false] rfl rfl (by kernel_rfl) (fun _ _ _ h => h) (Or.inl ⟨by rfl, ?_⟩) ?_ ?_
      rotate_left
      · intro w'
        go_simp
        with_reducible rfl
      rotate_left
      · simp only [Act.put, List.setIfInBounds_toArray, List.set_cons_zero, List.set_cons_succ]
        rfl
      refine pure_ (i := 2) (N := (some 19)) (v := ?_) (a' := ?_) #[true, true, true, false, false, false, false, false, false] rfl rfl (by kernel_rfl) (fun _ _ _ h => h) (Or.inl ⟨by rfl, ?_⟩) ?_ ?_
      rotate_left
      · intro w'
        go_simp
        with_reducible rfl
      rotate_left
      · simp only [Act.put, List.setIfInBounds_toArray, List.set_cons_zero, List.set_cons_succ]
        rfl
      refine pure_ (i := 4) (N := (some 21)) (v := ?_) (a' := ?_) #[true, true, true, false, true, false, false, false, false] rfl rfl (by kernel_rfl) (fun _ _ _ h => h) (Or.inl ⟨by rfl, ?_⟩) ?_ ?_
      rotate_left
      · intro w'
        go_simp
        with_reducible rfl
      rotate_left
      · simp only [Act.put, List.setIfInBounds_toArray, List.set_cons_zero, List.set_cons_succ]
        rfl
      refine pure_ (i := 5) (N := (some 22)) (v := ?_) (a' := ?_) #[true, true, true, false, true, true, false, false, false] rfl rfl (by kernel_rfl) (fun _ _ _ h => h) (Or.inl ⟨by rfl, ?_⟩) ?_ ?_
      rotate_left
      · intro w'
        go_simp
        with_reducible rfl
      rotate_left
      · simp only [Act.put, List.setIfInBounds_toArray, List.set_cons_zero, List.set_cons_succ]
        rfl
      refine pure_ (i := 6) (N := (some 23)) (v := ?_) (a' := ?_) #[true, true, true, false, true, true, true, false, false] rfl rfl (by kernel_rfl) (fun _ _ _ h => h) (Or.inl ⟨by rfl, ?_⟩) ?_ ?_
      rotate_left
      · intro w'
        go_simp
        with_reducible rfl
      rotate_left
      · simp only [Act.put, List.setIfInBounds_toArray, List.set_cons_zero, List.set_cons_succ]
        rfl
      refine take_ (i := 3) (N := (some 20)) (v := ?_) (a' := ?_) #[true, true, true, true, true, true, true, false, false] rfl rfl (by kernel_rfl) (fun _ _ _ h => h) (Or.inl ⟨by rfl, ?_⟩) hHeld ?_ ?_
      rotate_left
      · rintro w' ⟨s0, s1⟩
        go_simp
        with_reducible rfl
      rotate_left
      · simp only [Act.put, List.setIfInBounds_toArray, List.set_cons_zero, List.set_cons_succ]
        rfl
      refine take_ (i := 7) (N := (some 24)) (v := ?_) (a' := ?_) #[true, true, true, true, true, true, true, true, false] rfl rfl (by kernel_rfl) (fun _ _ _ h => h) (Or.inl ⟨by rfl, ?_⟩) hHeld ?_ ?_
      rotate_left
      · rintro w' ⟨s0, s1⟩
        go_simp
        with_reducible rfl
      rotate_left
      · simp only [Act.put, List.setIfInBounds_toArray, List.set_cons_zero, List.set_cons_succ]
        rfl
      refine pure_ (i := 8) (N := (some 25)) (v := ?_) (a' := ?_) #[true, true, true, true, true, true, true, true, true] rfl rfl (by kernel_rfl) (fun _ _ _ h => h) (Or.inl ⟨by rfl, ?_⟩) ?_ ?_
      rotate_left
      · intro w'
        go_simp
        with_reducible rfl
      rotate_left
      · simp only [Act.put, List.setIfInBounds_toArray, List.set_cons_zero, List.set_cons_succ]
        rfl
      refine done_ (by kernel_rfl) ?_
      have HB := Lib.hid HF.out.bel
      go_wp2
      go_roundg (xs.length - (i + 1))
      case measure => omega
      case rel => exact ⟨i + 1, by omega, by go_num, HB⟩
    · have hltz : ¬ (i : Int) < (xs.length : Int) := by omega
      go_wp2
      go_ret
      exact ⟨rfl, HB.out⟩
end Go.Proofs.Ytchdoignomidjaa.F
/- The walks of Cmp: the reference's and linear's. -/
set_option linter.unusedVariables false
set_option linter.unusedSimpArgs false
namespace Go.Proofs.Ytchdoignomidjaa.F
open Go.RowKit Go.Shelf Go.Proofs.YtchdoignomidjaaW.PrintLast

/-- the sign of a form's first number -/
def fsg (l : Frm) : Int := match l with | [] => 0 | m :: _ => sgn m.2.num
def ToldZ (w : World) (z : Int) (e : Ending) (w' : World) : Prop := e = .returned (.int .i64 z) ∧ Below w.heap.size w w'

set_option maxHeartbeats 1000000 in
set_option maxRecDepth 100000 in
theorem linear_Cmp (A : Option Addr) (c : Nat) (f : List (Int × RatD)) (B : Option Addr) (d : Nat) (g : List (Int × RatD)) (w : World) (hf : FRaw w A c f) (hg : FRaw w B d g) (hs : (f.map wtm).sum + 2 * mf (fval g) + 7 * g.length ≤ 137438953470) :
    Calls Try.prog 33 #[.slice A f.length c, .slice B g.length d] w (ToldZ w (fsg (nform (fval f ++ smul (-1) (fval g))))) := by
  have hS := Lib.hid (linear_Sub A c f B d g w hf hg hs)
  clear hf hg hs
  generalize nform (fval f ++ smul (-1) (fval g)) = l at *
  go_enter Try.func33, Try.ntmps33
  go_wp2_with fail
  refine hS.out.mono ?_
  rintro e W1 ⟨v, rfl, h1, h2⟩
  obtain ⟨A1, c1, rfl, h3⟩ := h1.fin
  have Q := Lib.hid h3
  have HB := Lib.hid h2
  clear h1 h2 h3 hS
  cases l with
  | nil =>
    simp only [List.length_nil]
    go_wp2
    go_ret
    exact ⟨rfl, HB.out⟩
  | cons m r =>
    obtain ⟨ad, x, rfl, hvq, hat, i1, i2, i3, i4⟩ := Q.out.at_ 0 (by simp)
    rw [show ad.add (0 * 4) = ad from by rw [Nat.zero_mul]; rfl] at i1 i2 i3 i4
    rw [List.getElem_cons_zero] at hvq
    subst hvq
    have hql := hat.ql
    have hT := Lib.hid (ratio_Sign (decide (x.q.num < 0)) x.A x.c (dg x.q.num.natAbs) x.B x.d (dg x.q.den) W1 hat.inq.num (by have := hql.1; omega) hat.inq.den (by have := hql.2; omega))
    rw [rv_can] at hT
    have hz : Hid (fsg (x.vq :: r) = sgn x.q.num) := rfl
    generalize sgn x.q.num = z at *
    have h0 : ¬ ((List.length (x.vq :: r) : Nat) : Int) = 0 := by simp only [List.length_cons]; omega
    have h1 : (0 : Int) < ((List.length (x.vq :: r) : Nat) : Int) := by simp only [List.length_cons]; omega
    have h1' : 0 < List.length (x.vq :: r) := by simp
    generalize hn : List.length (x.vq :: r) = n at *
    clear hn
    clear hat hql
    go_wp2_with fail
    refine hT.out.mono ?_
    rintro e W2 ⟨rfl, h2⟩
    replace HB := Lib.hid (HB.out.trans (h2.mono HB.out.size))
    clear h2 hT
    go_wp2
    go_ret
    exact ⟨ret_int hz.out.symm, HB.out⟩

set_option maxHeartbeats 1000000 in
set_option maxRecDepth 100000 in
theorem r6_Cmp (A : Option Addr) (c : Nat) (f : List (Int × RatD)) (B : Option Addr) (d : Nat) (g : List (Int × RatD)) (w : World) (hf : FRaw w A c f) (hg : FRaw w B d g) (hs : (f.map wtm).sum + 2 * mf (fval g) + 7 * g.length ≤ 137438953470) :
    Calls Try.prog 46 #[.slice A f.length c, .slice B g.length d] w (ToldZ w (fsg (nform (fval f ++ smul (-1) (fval g))))) := by
  have hS := Lib.hid (r6_Sub A c f B d g w hf hg hs)
  clear hf hg hs
  generalize nform (fval f ++ smul (-1) (fval g)) = l at *
  go_enter Try.func46, Try.ntmps46
  go_wp2_with fail
  refine hS.out.mono ?_
  rintro e W1 ⟨v, rfl, h1, h2⟩
  obtain ⟨A1, c1, rfl, h3⟩ := h1.fin
  have Q := Lib.hid h3
  have HB := Lib.hid h2
  clear h1 h2 h3 hS
  cases l with
  | nil =>
    simp only [List.length_nil]
    go_wp2
    go_ret
    exact ⟨rfl, HB.out⟩
  | cons m r =>
    obtain ⟨ad, x, rfl, hvq, hat, i1, i2, i3, i4⟩ := Q.out.at_ 0 (by simp)
    rw [show ad.add (0 * 4) = ad from by rw [Nat.zero_mul]; rfl] at i1 i2 i3 i4
    rw [List.getElem_cons_zero] at hvq
    subst hvq
    have hql := hat.ql
    have hT := Lib.hid (r3_Sign (decide (x.q.num < 0)) x.A x.c (dg x.q.num.natAbs) x.B x.d (dg x.q.den) W1 hat.inq.num (by have := hql.1; omega) hat.inq.den (by have := hql.2; omega))
    rw [rv_can] at hT
    have hz : Hid (fsg (x.vq :: r) = sgn x.q.num) := rfl
    generalize sgn x.q.num = z at *
    have h0 : ¬ ((List.length (x.vq :: r) : Nat) : Int) = 0 := by simp only [List.length_cons]; omega
    have h1 : (0 : Int) < ((List.length (x.vq :: r) : Nat) : Int) := by simp only [List.length_cons]; omega
    have h1' : 0 < List.length (x.vq :: r) := by simp
    generalize hn : List.length (x.vq :: r) = n at *
    clear hn
    clear hat hql
    go_wp2_with fail
    refine hT.out.mono ?_
    rintro e W2 ⟨rfl, h2⟩
    replace HB := Lib.hid (HB.out.trans (h2.mono HB.out.size))
    clear h2 hT
    go_wp2
    go_ret
    exact ⟨ret_int hz.out.symm, HB.out⟩
end Go.Proofs.Ytchdoignomidjaa.F
/- The walk of linear.Coef. -/
set_option linter.unusedVariables false
set_option linter.unusedSimpArgs false
namespace Go.Proofs.Ytchdoignomidjaa.F
open Go.RowKit Go.Shelf Go.Proofs.YtchdoignomidjaaW.PrintLast

set_option maxHeartbeats 1000000 in
set_option maxRecDepth 100000 in
theorem linear_Coef (A : Option Addr) (c : Nat) (f : List (Int × RatD)) (u : Int) (w : World) (h : FRaw w A c f) :
    Calls Try.prog 41 #[.slice A f.length c, .int .i64 u] w fun e w' => ToldQ w (co (fval f) u) e w' := by
  have hl := h.len
  have hc := h.cap
  have H1 := Lib.hid h.row
  have HF1 := Lib.hid (fun m (hm : m ∈ f) => (h.good m hm).mono (show wt m.2 ≤ 137438953471 by have h1 : wtm m ≤ (f.map wtm).sum := le_sum hm; have h2 := wt_le m; have := h.sum; omega))
  have HS1 := Lib.hid (show ∀ i, i ≤ f.length → QL (co (fval (f.take i)) u) from fun i hi => ql_of_mf (by
    have h1 := mf_fval (f := f.take i) fun m hm => h.good m (List.mem_of_mem_take hm)
    have h2 : (f.map wtm).sum = ((f.take i).map wtm).sum + ((f.drop i).map wtm).sum := by rw [← sum_append, List.take_append_drop]
    have := h.sum
    omega) u)
  obtain ⟨M, hM⟩ : ∃ M, M = 137438953472 := ⟨_, rfl⟩
  have HF := Lib.hid (((Fr.refl w).box [.bool false, .slice none 0 0, .slice none 0 0] 31).box [.bool false, .slice none 0 0, .slice none 0 0] 31)
  have hsz : (w.alloc (.cells #[.bool false, .slice none 0 0, .slice none 0 0] 31)).heap.size = w.heap.size + 1 := by simp
  rw [show [Value.bool false, Value.slice none 0 0, Value.slice none 0 0].toArray = #[Value.bool false, Value.slice none 0 0, Value.slice none 0 0] from rfl, hsz] at HF
  clear hsz h
  go_enter Try.func41, Try.ntmps41
  go_wp2
  go_loopg [11] f.length (fun gg s11 wr => ∃ (i : Nat) (s : Bool) (A1 : Option Addr) (c1 : Nat) (xs : List Int) (B1 : Option Addr) (d1 : Nat) (ys : List Int), i + gg = f.length ∧ s11 = .int .i64 i ∧ Hid (Fr w wr [(w.heap.size + 1, [.bool s, .slice A1 xs.length c1, .slice B1 ys.length d1]), (w.heap.size, [.bool false, .slice none 0 0, .slice none 0 0])]) ∧ Hid (In wr A1 c1 xs) ∧ Hid (In wr B1 d1 ys) ∧ xs.length ≤ M ∧ ys.length ≤ M ∧ Hid (rv s xs ys = co (fval (f.take i)) u))
  case atStart => exact ⟨0, false, none, 0, [], none, 0, [], by omega, rfl, HF, In.nil _ _ _, In.nil _ _ _, Nat.zero_le _, Nat.zero_le _, by show _ = _; rfl⟩
  case round =>
    clear HF
    obtain ⟨i, s, A1, c1, xs, B1, d1, ys, hg, rfl, HF, HX, HY, lx, ly, HE⟩ := hrel
    by_cases hlt : i < f.length
    · have hltz : (i : Int) < (f.length : Int) := by omega
      obtain ⟨ad, BB, cc, DD, dd, rfl, h1, h2, h3, h4, hq⟩ := row_mono H1.out i hlt
      have gm := HF1.out f[i] (List.getElem_mem hlt)
      have HE2 := Lib.hid (show co (fval (f.take (i + 1))) u = co (fval (f.take i)) u + (if f[i].1 = u then rq f[i].2 else 0) from by
        rw [List.take_succ_eq_append_getElem hlt]
        unfold fval
        rw [List.map_append, co_append]
        simp only [List.map_cons, List.map_nil, co, valM]
        grind)
      have sq := HS1.out (i + 1) (by omega)
      generalize f[i] = m at *
      obtain ⟨v, ⟨sb, us⟩, es⟩ := m
      have gn := gm.mn
      have gd := gm.md
      have q1 := cell_below HF.out.bel h1
      have q2 := cell_below HF.out.bel h2
      have q3 := cell_below HF.out.bel h3
      have q4 := cell_below HF.out.bel h4
      have HQ1 := Lib.hid (hq.num gm)
      have HQ2 := Lib.hid (hq.den gm)
      clear h1 h2 h3 h4 hq gm
      dsimp only at *
      have hgw : w.heap.size + 1 < wr.heap.size := HF.out.ltN 0 rfl
      replace HF := Lib.hid (HF.out.box [.int .i64 v, .bool sb, .slice BB us.length cc, .slice DD es.length dd] 75)
      rw [show [Value.int .i64 v, .bool sb, .slice BB us.length cc, .slice DD es.length dd].toArray = #[Value.int .i64 v, .bool sb, .slice BB us.length cc, .slice DD es.length dd] from rfl] at HF
      have hal := Lib.hid ((Below.refl _ wr).alloc (Nat.le_refl _) (.cells #[.int .i64 v, .bool sb, .slice BB us.length cc, .slice DD es.length dd] 75))
      replace HX := Lib.hid (HX.out.below hal.out)
      replace HY := Lib.hid (HY.out.below hal.out)
      by_cases hv : v = u
      · subst hv
        have HSm : rv s xs ys + rv sb us es = co (fval (f.take (i + 1))) v := by rw [HE2.out, if_pos rfl, ← HE.out]; rfl
        have hAdd := Lib.hid (fun (W : World) (hb : Below w.heap.size w W) (k1 : In W A1 c1 xs) (k2 : In W B1 d1 ys) => ratio_Add s A1 c1 xs B1 d1 ys sb BB cc us DD dd es W k1 (by omega) k2 (by omega) (HQ1.out.below hb) (by omega) (HQ2.out.below hb) (by omega))
        rw [HSm] at hAdd
        obtain ⟨q, hq0⟩ : ∃ q, q = co (fval (f.take (i + 1))) v := ⟨_, rfl⟩
        rw [← hq0] at hAdd sq
        have HQV := Lib.hid hq0
        have sq1 := sq.1
        have sq2 := sq.2
        clear hq0 HSm HE HE2 HQ1 HQ2 sq
        have hc0 := HF.out.cellN 1 rfl 0 rfl
        have hc1 := HF.out.cellN 1 rfl 1 rfl
        have hc2 := HF.out.cellN 1 rfl 2 rfl
        go_wp2_with fail
        refine (hAdd.out _ HF.out.bel HX.out HY.out).mono ?_
        rintro e W1 ⟨A3, c3, B3, d3, rfl, g1, g2, g3⟩
        replace HF := Lib.hid (HF.out.below g3)
        have Q1 := Lib.hid (InQ.mk g1 g2)
        clear g1 g2 g3 HX HY hAdd hc0 hc1 hc2
        have hf0 := HF.out.frozenN 1 rfl 0
        have hf1 := HF.out.frozenN 1 rfl 1
        have hf2 := HF.out.frozenN 1 rfl 2
        have hd0 := HF.out.cellN 1 rfl 0 rfl
        have hd1 := HF.out.cellN 1 rfl 1 rfl
        have hd2 := HF.out.cellN 1 rfl 2 rfl
        replace Q1 := Lib.hid (Q1.out.put3 (HF.out.ownN 1 rfl) (by simp) (a := .bool (decide (q.num < 0))) (by simp) (b := .slice A3 (dg q.num.natAbs).length c3) (by simp) (.slice B3 (dg q.den).length d3))
        replace HF := Lib.hid (HF.out.put3 1 rfl (by omega) (by simp; omega) (.bool (decide (q.num < 0))) (.slice A3 (dg q.num.natAbs).length c3) (.slice B3 (dg q.den).length d3))
        go_wp2
        go_roundg (f.length - (i + 1))
        case measure => omega
        case rel => exact ⟨i + 1, decide (q.num < 0), A3, c3, dg q.num.natAbs, B3, d3, dg q.den, by omega, by go_num, HF.out.tail, Q1.out.num, Q1.out.den, by omega, by omega, (rv_can q).trans HQV.out⟩
      · have HE3 : Hid (rv s xs ys = co (fval (f.take (i + 1))) u) := by
          show _ = _
          rw [HE2.out, if_neg hv, HE.out]; exact (Rat.add_zero _).symm
        have hvb : (v == u) = false := by rw [beq_eq_false_iff_ne]; exact hv
        clear HE HE2 hv hal
        go_wp2
        go_roundg (f.length - (i + 1))
        case measure => omega
        case rel => exact ⟨i + 1, s, A1, c1, xs, B1, d1, ys, by omega, by go_num, HF.out.tail, HX, HY, lx, ly, HE3⟩
    · have hltz : ¬ (i : Int) < (f.length : Int) := by omega
      have HE3 : Hid (rv s xs ys = co (fval f) u) := by
        show _ = _
        rw [HE.out, List.take_of_length_le (by omega)]
      clear HE
      have hN := Lib.hid (fun (W : World) (hb : Below wr.heap.size wr W) => ratio_Norm s A1 c1 xs B1 d1 ys W (HX.out.below hb) (by omega) (HY.out.below hb) (by omega))
      rw [HE3.out] at hN
      obtain ⟨q, hq0⟩ : ∃ q, q = co (fval f) u := ⟨_, rfl⟩
      rw [← hq0] at hN
      have HQV := Lib.hid hq0
      clear hq0
      have hc0 := HF.out.cellN 0 rfl 0 rfl
      have hc1 := HF.out.cellN 0 rfl 1 rfl
      have hc2 := HF.out.cellN 0 rfl 2 rfl
      go_wp2_with fail
      refine (hN.out _ (Below.refl _ _)).mono ?_
      rintro e W1 ⟨A2, c2, B2, d2, rfl, q1, q2, q3⟩
      replace HF := Lib.hid (HF.out.below q3)
      have Q1 := Lib.hid q1
      have Q2 := Lib.hid q2
      clear q1 q2 q3 hc0 hc1 hc2 hN HX HY
      have hf0 := HF.out.frozenN 1 rfl 0
      have hf1 := HF.out.frozenN 1 rfl 1
      have hf2 := HF.out.frozenN 1 rfl 2
      have hd0 := HF.out.cellN 1 rfl 0 rfl
      have hd1 := HF.out.cellN 1 rfl 1 rfl
      have hd2 := HF.out.cellN 1 rfl 2 rfl
      have HE := Lib.hid (end_rat HF.out.tail (by simp) (by simp) (by omega) Q1.out Q2.out rfl)
      generalize decide (q.num < 0) = b at HE ⊢
      go_wp2
      obtain ⟨f1, f2⟩ := HE.out
      refine post_own f2 rfl rfl rfl Try.underlying31 rfl (by kernel_rfl) ?_
      rw [← HQV.out]
      exact f1
end Go.Proofs.Ytchdoignomidjaa.F
/- The walk of law06.unit. -/
set_option linter.unusedVariables false
set_option linter.unusedSimpArgs false
namespace Go.Proofs.Ytchdoignomidjaa.F
open Go.RowKit Go.Shelf Go.Proofs.YtchdoignomidjaaW.PrintLast

set_option maxHeartbeats 1000000 in
set_option maxRecDepth 100000 in
theorem law_unit (v : Int) (w : World) : Calls Try.prog 34 #[.int .i64 v] w (ToldFm w [(v, 1)]) := by
  obtain ⟨q, hq⟩ : ∃ q : Rat, q = 1 := ⟨_, rfl⟩
  have hW := Lib.hid (r3_Whole 1 w (by omega) (by omega))
  rw [show (((1 : Int)) : Rat) = 1 from rfl, ← hq] at hW
  have hmu : mu q ≤ 1 := by rw [hq]; exact mu_int (n := 1) (by decide)
  have hql := Lib.hid (mu_ql (q := q) (by omega))
  rw [← hq]
  clear hq hmu
  go_enter Try.func34, Try.ntmps34
  go_wp2_with fail
  refine hW.out.mono ?_
  rintro e W1 ⟨A1, c1, B1, d1, rfl, q1, q2, q3⟩
  have HO := Lib.hid (OwnF.one (w := W1) (B := w.heap.size) (r := MC.mk v q A1 c1 B1 d1) ⟨⟨q1, q2⟩, hql.out⟩ q3.size)
  have HB := Lib.hid (q3.alloc q3.size (.cells (MC.mk v q A1 c1 B1 d1).cells.toArray 75))
  clear q1 q2 q3 hW
  go_wp2
  go_ret
  exact ⟨_, rfl, HO.out, HB.out⟩
end Go.Proofs.Ytchdoignomidjaa.F
/- The walk of law06.awake. -/
set_option linter.unusedVariables false
set_option linter.unusedSimpArgs false
namespace Go.Proofs.Ytchdoignomidjaa.F
open Go.RowKit Go.Shelf Go.Proofs.YtchdoignomidjaaW.PrintLast

theorem two_threes : nform ([((3 : Int), (1 : Rat))] ++ [(3, 1)]) = [(3, 2)] := by decide +kernel

set_option maxHeartbeats 2000000 in
set_option maxRecDepth 100000 in
theorem law_awake (w : World) : Calls Try.prog 32 #[] w fun e w' => e = .returned (.bool true) ∧ Below w.heap.size w w' := by
  have hU := Lib.hid (fun (W : World) => law_unit 3 W)
  have hm1 : mu (1 : Rat) ≤ 1 := mu_int (n := 1) (by decide)
  have hm2 : mu (2 : Rat) ≤ 1 := mu_int (n := 2) (by decide)
  have hA := Lib.hid (show ∀ (W : World) (A1 : Option Addr) (c1 : Nat) (A2 : Option Addr) (c2 : Nat), FIn W A1 c1 [(3, 1)] → FIn W A2 c2 [(3, 1)] → Calls Try.prog 27 #[.slice A1 1 c1, .slice A2 1 c2] W (ToldFm W [(3, 2)]) from fun W A1 c1 A2 c2 k1 k2 => by
    have e : mf [((3 : Int), (1 : Rat))] ≤ 2 := by show mu 1 + 1 + 0 ≤ 2; omega
    have e2 := wtm_can [((3 : Int), (1 : Rat))]
    have e3 : List.length [((3 : Int), (1 : Rat))] = 1 := rfl
    have h := linear_Add A1 c1 _ A2 c2 _ W (k1.raw (by omega)) (k2.raw (by omega)) (by omega)
    rw [fval_can, two_threes] at h
    exact h)
  obtain ⟨q, hq⟩ : ∃ q : Rat, q = 2 := ⟨_, rfl⟩
  have hW := Lib.hid (fun (W : World) => r3_Whole 2 W (by omega) (by omega))
  rw [show (((2 : Int)) : Rat) = 2 from rfl, ← hq] at hW
  rw [← hq] at hA hm2
  have hln := mu_len q
  have hC := Lib.hid (fun (W : World) (A1 : Option Addr) (c1 : Nat) (B1 : Option Addr) (d1 : Nat) (k : InQ W A1 c1 B1 d1 q) (A2 : Option Addr) (c2 : Nat) (B2 : Option Addr) (d2 : Nat) (k2 : InQ W A2 c2 B2 d2 q) => r3_Cmp (decide (q.num < 0)) A1 c1 _ B1 d1 _ (decide (q.num < 0)) A2 c2 _ B2 d2 _ W k.num (by omega) k.den (by omega) k2.num (by omega) k2.den (by omega) (by rw [rv_can, hq]; decide +kernel) (by rw [rv_can, hq]; decide +kernel))
  simp only [rv_can] at hC
  rw [show sgn (q + -q).num = 0 by rw [hq]; decide +kernel] at hC
  clear hq hm1 hm2 hln
  have HB := Lib.hid (Below.refl w.heap.size w)
  go_enter Try.func32, Try.ntmps32
  go_wp2_with fail
  refine (hU.out w).mono ?_
  rintro e W1 ⟨v, rfl, h1, h2⟩
  obtain ⟨A1, c1, rfl, h3⟩ := h1.fin
  have Q1 := Lib.hid h3
  replace HB := Lib.hid (HB.out.trans (h2.mono HB.out.size))
  clear h1 h2 h3
  simp only [List.length_cons, List.length_nil, Nat.zero_add]
  go_wp2_with fail
  refine (hU.out W1).mono ?_
  rintro e W2 ⟨v, rfl, h1, h2⟩
  obtain ⟨A2, c2, rfl, h3⟩ := h1.fin
  have Q2 := Lib.hid h3
  replace Q1 := Lib.hid (Q1.out.below h2)
  replace HB := Lib.hid (HB.out.trans (h2.mono HB.out.size))
  clear h1 h2 h3 hU
  simp only [List.length_cons, List.length_nil, Nat.zero_add]
  go_wp2_with fail
  refine (hA.out W2 A1 c1 A2 c2 Q1.out Q2.out).mono ?_
  rintro e W3 ⟨v, rfl, h1, h2⟩
  obtain ⟨A3, c3, rfl, h3⟩ := h1.fin
  obtain ⟨ad, x, rfl, hvq, hat, i1, i2, i3, i4⟩ := h3.at_ 0 (by simp)
  rw [show ad.add (0 * 4) = ad from by rw [Nat.zero_mul]; rfl] at i1 i2 i3 i4
  replace HB := Lib.hid (HB.out.trans (h2.mono HB.out.size))
  clear h1 h2 h3 hA Q1 Q2
  obtain ⟨v, y, A4, c4, B4, d4⟩ := x
  simp only [List.getElem_cons_zero, MC.vq, Prod.mk.injEq] at hvq
  obtain ⟨rfl, rfl⟩ := hvq
  have Q := Lib.hid hat.inq
  clear hat
  dsimp only at i1 i2 i3 i4
  simp only [List.length_cons, List.length_nil, Nat.zero_add]
  have HF : Hid (Fr W3 W3 []) := Fr.refl W3
  go_wp2_with fail
  replace Q := Lib.hid (Q.out.below (Below.drew (Below.refl _ _)))
  have HF_ := Lib.hid HF.out.drew
  clear HF
  have HF := HF_
  clear HF_
  refine start_ (n := 20) (S := fun w' => w'.cell? (ad) = some (.int .i64 3) ∧ w'.cell? (nxt ad 1) = some (.bool (decide (y.num < 0))) ∧ w'.cell? (nxt ad 2) = some (.slice A4 (dg y.num.natAbs).length c4) ∧ w'.cell? (nxt ad 3) = some (.slice B4 (dg y.den).length d4)) (ds := []) #[false, false, false, false, false, false, false, false, false, false, false, false, false, false, false, false, false, false, false, false] (by kernel_rfl) rfl rfl ⟨cell_below HF.out.bel i1, cell_below HF.out.bel i2, cell_below HF.out.bel i3, cell_below HF.out.bel i4⟩ (fun hHeld => ?_)
  generalize World.drew _ = W at *
  refine pure_ (i := 0) (N := (some 5)) (v := ?_) (a' := ?_) #[true, false, false, false, false, false, false, false, false, false, false, false, false, false, false, false, false, false, false, false] rfl rfl (by kernel_rfl) (fun _ _ _ h => h) (Or.inl ⟨by rfl, ?_⟩) ?_ ?_
  rotate_left
  · intro w'
    go_simp
    with_reducible rfl
  rotate_left
  · simp only [Act.put, List.setIfInBounds_toArray, List.set_cons_zero, List.set_cons_succ]
    rfl
  refine pure_ (i := 1) (N := (some 6)) (v := ?_) (a' := ?_) #[true, true, false, false, false, false, false, false, false, false, false, false, false, false, false, false, false, false, false, false] rfl rfl (by kernel_rfl) (fun _ _ _ h => h) (Or.inl ⟨by rfl, ?_⟩) ?_ ?_
  rotate_left
  · intro w'
    go_simp
    with_reducible rfl
  rotate_left
  · simp only [Act.put, List.setIfInBounds_toArray, List.set_cons_zero, List.set_cons_succ]
    rfl
  refine pure_ (i := 2) (N := (some 7)) (v := ?_) (a' := ?_) #[true, true, true, false, false, false, false, false, false, false, false, false, false, false, false, false, false, false, false, false] rfl rfl (by kernel_rfl) (fun _ _ _ h => h) (Or.inl ⟨by rfl, ?_⟩) ?_ ?_
  rotate_left
  · intro w'
    go_simp
    with_reducible rfl
  rotate_left
  · simp only [Act.put, List.setIfInBounds_toArray, List.set_cons_zero, List.set_cons_succ]
    rfl
  refine pure_ (i := 3) (N := (some 8)) (v := ?_) (a' := ?_) #[true, true, true, true, false, false, false, false, false, false, false, false, false, false, false, false, false, false, false, false] rfl rfl (by kernel_rfl) (fun _ _ _ h => h) (Or.inl ⟨by rfl, ?_⟩) ?_ ?_
  rotate_left
  · intro w'
    go_simp
    with_reducible rfl
  rotate_left
  · simp only [Act.put, List.setIfInBounds_toArray, List.set_cons_zero, List.set_cons_succ]
    rfl
  refine pure_ (i := 4) (N := (some 9)) (v := ?_) (a' := ?_) #[true, true, true, true, true, false, false, false, false, false, false, false, false, false, false, false, false, false, false, false] rfl rfl (by kernel_rfl) (fun _ _ _ h => h) (Or.inl ⟨by rfl, ?_⟩) ?_ ?_
  rotate_left
  · intro w'
    go_simp
    with_reducible rfl
  rotate_left
  · simp only [Act.put, List.setIfInBounds_toArray, List.set_cons_zero, List.set_cons_succ]
    rfl
  refine pure_ (i := 5) (N := (some 10)) (v := ?_) (a' := ?_) #[true, true, true, true, true, true, false, false, false, false, false, false, false, false, false, false, false, false, false, false] rfl rfl (by kernel_rfl) (fun _ _ _ h => h) (Or.inl ⟨by rfl, ?_⟩) ?_ ?_
  rotate_left
  · intro w'
    go_simp
    with_reducible rfl
  rotate_left
  · simp only [Act.put, List.setIfInBounds_toArray, List.set_cons_zero, List.set_cons_succ]
    rfl
  refine pure_ (i := 6) (N := (some 11)) (v := ?_) (a' := ?_) #[true, true, true, true, true, true, true, false, false, false, false, false, false, false, false, false, false, false, false, false] rfl rfl (by kernel_rfl) (fun _ _ _ h => h) (Or.inl ⟨by rfl, ?_⟩) ?_ ?_
  rotate_left
  · intro w'
    go_simp
    with_reducible rfl
  rotate_left
  · simp only [Act.put, List.setIfInBounds_toArray, List.set_cons_zero, List.set_cons_succ]
    rfl
  refine take_ (i := 7) (N := (some 12)) (v := ?_) (a' := ?_) #[true, true, true, true, true, true, true, true, false, false, false, false, false, false, false, false, false, false, false, false] rfl rfl (by kernel_rfl) (fun _ _ _ h => h) (Or.inl ⟨by rfl, ?_⟩) hHeld ?_ ?_
  rotate_left
  · rintro w' ⟨s0, s1, s2, s3⟩
    go_simp
    with_reducible rfl
  rotate_left
  · simp only [Act.put, List.setIfInBounds_toArray, List.set_cons_zero, List.set_cons_succ]
    rfl
  refine pure_ (i := 8) (N := (some 13)) (v := ?_) (a' := ?_) #[true, true, true, true, true, true, true, true, true, false, false, false, false, false, false, false, false, false, false, false] rfl rfl (by kernel_rfl) (fun _ _ _ h => h) (Or.inl ⟨by rfl, ?_⟩) ?_ ?_
  rotate_left
  · intro w'
    go_simp
    with_reducible rfl
  rotate_left
  · simp only [Act.put, List.setIfInBounds_toArray, List.set_cons_zero, List.set_cons_succ]
    rfl
  refine pure_ (i := 9) (N := (some 14)) (v := ?_) (a' := ?_) #[true, true, true, true, true, true, true, true, true, true, false, false, false, false, false, false, false, false, false, false] rfl rfl (by kernel_rfl) (fun _ _ _ h => h) (Or.inl ⟨by rfl, ?_⟩) ?_ ?_
  rotate_left
  · intro w'
    go_simp
    with_reducible rfl
  rotate_left
  · simp only [Act.put, List.setIfInBounds_toArray, List.set_cons_zero, List.set_cons_succ]
    rfl
  refine pure_ (i := 10) (N := (some 15)) (v := ?_) (a' := ?_) #[true, true, true, true, true, true, true, true, true, true, true, false, false, false, false, false, false, false, false, false] rfl rfl (by kernel_rfl) (fun _ _ _ h => h) (Or.inl ⟨by rfl, ?_⟩) ?_ ?_
  rotate_left
  · intro w'
    go_simp
    with_reducible rfl
  rotate_left
  · simp only [Act.put, List.setIfInBounds_toArray, List.set_cons_zero, List.set_cons_succ]
    rfl
  refine pure_ (i := 11) (N := (some 16)) (v := ?_) (a' := ?_) #[true, true, true, true, true, true, true, true, true, true, true, true, false, false, false, false, false, false, false, false] rfl rfl (by kernel_rfl) (fun _ _ _ h => h) (Or.inl ⟨by rfl, ?_⟩) ?_ ?_
  rotate_left
  · intro w'
    go_simp
    with_reducible rfl
  rotate_left
  · simp only [Act.put, List.setIfInBounds_toArray, List.set_cons_zero, List.set_cons_succ]
    rfl
  refine pure_ (i := 12) (N := (some 17)) (v := ?_) (a' := ?_) #[true, true, true, true, true, true, true, true, true, true, true, true, true, false, false, false, false, false, false, false] rfl rfl (by kernel_rfl) (fun _ _ _ h => h) (Or.inl ⟨by rfl, ?_⟩) ?_ ?_
  rotate_left
  · intro w'
    go_simp
    with_reducible rfl
  rotate_left
  · simp only [Act.put, List.setIfInBounds_toArray, List.set_cons_zero, List.set_cons_succ]
    rfl
  refine pure_ (i := 13) (N := (some 18)) (v := ?_) (a' := ?_) #[true, true, true, true, true, true, true, true, true, true, true, true, true, true, false, false, false, false, false, false] rfl rfl (by kernel_rfl) (fun _ _ _ h => h) (Or.inl ⟨by rfl, ?_⟩) ?_ ?_
  rotate_left
  · intro w'
    go_simp
    with_reducible rfl
  rotate_left
  · simp only [Act.put, List.setIfInBounds_toArray, List.set_cons_zero, List.set_cons_succ]
    rfl
  refine take_ (i := 14) (N := (some 19)) (v := ?_) (a' := ?_) #[true, true, true, true, true, true, true, true, true, true, true, true, true, true, true, false, false, false, false, false] rfl rfl (by kernel_rfl) (fun _ _ _ h => h) (Or.inl ⟨by rfl, ?_⟩) hHeld ?_ ?_
  rotate_left
  · rintro w' ⟨s0, s1, s2, s3⟩
    go_simp
    with_reducible rfl
  rotate_left
  · simp only [Act.put, List.setIfInBounds_toArray, List.set_cons_zero, List.set_cons_succ]
    rfl
  refine one_ (i := 15) (N := (some 20)) #[true, true, true, true, true, true, true, true, true, true, true, true, true, true, true, true, false, false, false, false] rfl rfl (by kernel_rfl) (by decide) (fun K hK => ?_)
  refine goes_ Try.func31 (by kernel_rfl) rfl #[.int .i64 2] (by rfl) rfl rfl (by (try simp only [List.map_toArray, List.map_cons, List.map_nil]); first | done | rfl) ?_
  refine (hW.out W).mono ?_
  rintro e W1 ⟨A5, c5, B5, d5, rfl, q1, q2, q3⟩
  refine ⟨_, rfl, ?_⟩
  replace HF := Lib.hid (HF.out.below q3)
  replace Q := Lib.hid (Q.out.below q3)
  have Q5 := Lib.hid (InQ.mk q1 q2)
  clear q1 q2 q3
  refine hK.out _ _ ⟨cell_below HF.out.bel i1, cell_below HF.out.bel i2, cell_below HF.out.bel i3, cell_below HF.out.bel i4⟩ (fun hHeld => ?_)
  clear hK K
  refine norm_ (a' := ?_) ?_ ?_
  rotate_left
  · show Act.put _ (some 20) _ = _
    simp only [Act.put, List.setIfInBounds_toArray, List.set_cons_zero, List.set_cons_succ]
    rfl
  refine one_ (i := 16) (N := (some 21)) #[true, true, true, true, true, true, true, true, true, true, true, true, true, true, true, true, true, false, false, false] rfl rfl (by kernel_rfl) (by decide) (fun K hK => ?_)
  refine goes_ Try.func50 (by kernel_rfl) rfl #[.agg #[.bool (decide (y.num < 0)), .slice A4 (dg y.num.natAbs).length c4, .slice B4 (dg y.den).length d4], .agg #[.bool (decide (y.num < 0)), .slice A5 (dg y.num.natAbs).length c5, .slice B5 (dg y.den).length d5]] (by rfl) rfl rfl (by (try simp only [List.map_toArray, List.map_cons, List.map_nil]); first | done | rfl) ?_
  refine (hC.out W1 A4 c4 B4 d4 Q.out A5 c5 B5 d5 Q5.out).mono ?_
  rintro e W2 ⟨rfl, q3⟩
  refine ⟨_, rfl, ?_⟩
  replace HF := Lib.hid (HF.out.below q3)
  clear q3 Q Q5
  refine hK.out _ _ ⟨cell_below HF.out.bel i1, cell_below HF.out.bel i2, cell_below HF.out.bel i3, cell_below HF.out.bel i4⟩ (fun hHeld => ?_)
  clear hK K
  refine norm_ (a' := ?_) ?_ ?_
  rotate_left
  · show Act.put _ (some 21) _ = _
    simp only [Act.put, List.setIfInBounds_toArray, List.set_cons_zero, List.set_cons_succ]
    rfl
  refine pure_ (i := 17) (N := (some 22)) (v := ?_) (a' := ?_) #[true, true, true, true, true, true, true, true, true, true, true, true, true, true, true, true, true, true, false, false] rfl rfl (by kernel_rfl) (fun _ _ _ h => h) (Or.inl ⟨by rfl, ?_⟩) ?_ ?_
  rotate_left
  · intro w'
    go_simp
    with_reducible rfl
  rotate_left
  · simp only [Act.put, List.setIfInBounds_toArray, List.set_cons_zero, List.set_cons_succ]
    rfl
  refine pure_ (i := 18) (N := (some 23)) (v := ?_) (a' := ?_) #[true, true, true, true, true, true, true, true, true, true, true, true, true, true, true, true, true, true, true, false] rfl rfl (by kernel_rfl) (fun _ _ _ h => h) (Or.inl ⟨by rfl, ?_⟩) ?_ ?_
  rotate_left
  · intro w'
    go_simp
    with_reducible rfl
  rotate_left
  · simp only [Act.put, List.setIfInBounds_toArray, List.set_cons_zero, List.set_cons_succ]
    rfl
  refine pure_ (i := 19) (N := (some 0)) (v := ?_) (a' := ?_) #[true, true, true, true, true, true, true, true, true, true, true, true, true, true, true, true, true, true, true, true] rfl rfl (by kernel_rfl) (fun _ _ _ h => h) (Or.inl ⟨by rfl, ?_⟩) ?_ ?_
  rotate_left
  · intro w'
    go_simp
    with_reducible rfl
  rotate_left
  · simp only [Act.put, List.setIfInBounds_toArray, List.set_cons_zero, List.set_cons_succ]
    rfl
  refine done_ (by kernel_rfl) ?_
  have HB2 := Lib.hid (HB.out.trans (HF.out.bel.mono HB.out.size))
  go_wp2
  go_ret
  exact ⟨rfl, HB2.out⟩
end Go.Proofs.Ytchdoignomidjaa.F
/- Plain law of LinearModule: normal forms of sums and multiples. -/
set_option linter.unusedVariables false
set_option linter.unusedSimpArgs false
namespace Go.Proofs.Ytchdoignomidjaa.F
open Go.RowKit Go.Shelf

/-- what is known of a form that is handed in, of bulk at most 1048576 -/
theorem FRaw.of {w : World} {A : Option Addr} {c : Nat} {f : List (Int × RatD)} (h : kMono.Row w A f) (hc : f.length ≤ c) (hf : ∀ m ∈ f, Good (wt m.2) m.2) (hb : (f.map wtm).sum ≤ 1048576) : FRaw w A c f := ⟨h, hc, hf, by omega⟩

theorem mod_comm (f g : Frm) : nform (g ++ f) = nform (f ++ g) := nform_congr fun v => by rw [co_append, co_append]; exact Rat.add_comm _ _
theorem mod_sub (f g : Frm) : nform (nform (f ++ g) ++ smul (-1) g) = nform f := nform_congr fun v => by
  rw [co_append, co_nform, co_append, co_smul]
  grind
theorem mod_scale (c : Rat) (f g : Frm) : nform (nform (smul c f) ++ nform (smul c g)) = nform (smul c (nform (f ++ g))) := nform_congr fun v => by
  rw [co_append, co_nform, co_nform, co_smul, co_smul, co_smul, co_nform, co_append]
  grind
theorem mod_one (c : Rat) (f : Frm) : nform (nform (smul c f) ++ f) = nform (smul (c + 1) f) := nform_congr fun v => by
  rw [co_append, co_nform, co_smul, co_smul]
  grind
end Go.Proofs.Ytchdoignomidjaa.F
/- Plain law of LinearOrders: the sign of a difference's first number. -/
set_option linter.unusedVariables false
set_option linter.unusedSimpArgs false
namespace Go.Proofs.Ytchdoignomidjaa.F
open Go.RowKit Go.Shelf

theorem sgn_rng (n : Int) : -1 ≤ sgn n ∧ sgn n ≤ 1 := by
  unfold sgn
  split
  · omega
  · split <;> omega
theorem fsg_rng (l : Frm) : -1 ≤ fsg l ∧ fsg l ≤ 1 := by
  cases l with
  | nil => exact ⟨by decide, by decide⟩
  | cons m r => exact sgn_rng _
theorem sgn_neg (n : Int) : sgn (-n) = -sgn n := by unfold sgn; split <;> split <;> (try split) <;> omega
theorem fsg_neg (l : Frm) : fsg (smul (-1) l) = -fsg l := by
  cases l with
  | nil => rfl
  | cons m r =>
    show sgn (-1 * m.2).num = - sgn m.2.num
    rw [Rat.neg_mul, Rat.one_mul, Rat.neg_num, sgn_neg]
theorem ord_flip (f g : Frm) : fsg (nform (g ++ smul (-1) f)) = -fsg (nform (f ++ smul (-1) g)) := by
  rw [← fsg_neg, nform_smul (by decide)]
  congr 1
  exact nform_congr fun v => by rw [co_append, co_smul, co_smul, co_append, co_smul]; grind
theorem sgn_le (q : Rat) : sgn q.num ≤ 0 ↔ q ≤ 0 := by
  have h : 0 ≤ (-q).num ↔ 0 ≤ -q := Rat.num_nonneg
  rw [Rat.neg_num] at h
  have k : 0 ≤ -q ↔ q ≤ 0 := by constructor <;> intro e <;> grind
  rw [← k, ← h]
  unfold sgn
  split
  · omega
  · split <;> omega
theorem fsg_mg {a b : Frm} (h : fsg a ≤ 0) (k : fsg b ≤ 0) (hb : Nf b) : fsg (mg a b) ≤ 0 := by
  cases a with
  | nil => rw [mg]; exact k
  | cons x a =>
    cases b with
    | nil => rw [mg_nil]; exact h
    | cons y b =>
      have h1 : x.2 ≤ 0 := (sgn_le _).1 h
      have h2 : y.2 ≤ 0 := (sgn_le _).1 k
      have h3 : y.2 ≠ 0 := hb.nz y (List.mem_cons_self ..)
      rw [mg]
      split
      · exact h
      · split
        · exact k
        · split
          · exfalso; grind
          · exact (sgn_le _).2 (show x.2 + y.2 ≤ 0 by grind)
theorem ord_trans (f g h : Frm) (a : fsg (nform (f ++ smul (-1) g)) ≤ 0) (b : fsg (nform (g ++ smul (-1) h)) ≤ 0) : fsg (nform (f ++ smul (-1) h)) ≤ 0 := by
  have e := fsg_mg a b (nform_Nf _)
  rw [mg_nform] at e
  rwa [nform_congr (f := (f ++ smul (-1) g) ++ (g ++ smul (-1) h)) (g := f ++ smul (-1) h) fun v => by rw [co_append, co_append, co_append, co_append, co_smul, co_smul]; grind] at e
theorem ord_add (f g h : Frm) : nform (nform (f ++ h) ++ smul (-1) (nform (g ++ h))) = nform (f ++ smul (-1) g) := nform_congr fun v => by
  rw [co_append, co_smul, co_nform, co_nform, co_append, co_append, co_append, co_smul]; grind
theorem fsg_zero {l : Frm} (h : Nf l) (k : fsg l = 0) : l = [] := by
  cases l with
  | nil => rfl
  | cons m r =>
    have h3 : m.2 ≠ 0 := h.nz m (List.mem_cons_self ..)
    have h4 : m.2.num ≠ 0 := fun e => h3 (Rat.num_eq_zero.1 e)
    change sgn m.2.num = 0 at k
    unfold sgn at k
    split at k
    · omega
    · split at k <;> omega
theorem ord_same (f g : Frm) : nform f = nform g ↔ fsg (nform (f ++ smul (-1) g)) = 0 := by
  constructor
  · intro e
    rw [show nform (f ++ smul (-1) g) = [] from (nform_eq Nf.nil fun v => by
      have := co_eq_of_nform e v
      rw [co_append, co_smul, this]; show (0 : Rat) = _; grind).symm]
    rfl
  · intro e
    have h := fsg_zero (nform_Nf _) e
    refine nform_congr fun v => ?_
    have k := co_nform (f ++ smul (-1) g) v
    rw [h, co_append, co_smul] at k
    change (0 : Rat) = _ at k
    grind
theorem ord_units : fsg (nform ([((1 : Int), (1 : Rat))] ++ smul (-1) [(2, 1)])) = 1 := by decide +kernel
end Go.Proofs.Ytchdoignomidjaa.F

/- The walks of the reference's layer 2: made, Norm, Neg, Of, Mul, Add, Sign. -/
import Derived.Test.YtidgpkccjcddgaaGreatDoorGg
set_option linter.unusedVariables false
set_option linter.unusedSimpArgs false
namespace Go.Proofs.YtidgpkccjcddgaaGreatDoor.F
open Go.RowKit Go.Shelf Go.Proofs.YtidgpkccjcddgaaGreatDoorW.PrintLast
set_option maxHeartbeats 1000000 in
set_option maxRecDepth 100000 in
theorem r2_made (s : Bool) (A : Option Addr) (c : Nat) (xs : List Int) (w : World) (h : In w A c xs) (hm : xs.length ≤ 2199023255552) (n : Int) (hn : n = iv s (V xs)) :
    Calls Tryz.prog 135 #[.bool s, .slice A xs.length c] w fun e w' => ToldI w n e w' := by
  have HF := Lib.hid ((Fr.refl w).box [.bool false, .slice none 0 0] 41)
  have hN := Lib.hid (r1_NormN A c xs _ (h.below HF.out.bel) hm)
  have hv := V_nonneg h.lim
  have habs : (V xs).toNat = n.natAbs := by rw [hn, iv_natAbs h.lim]
  have hb : decide (n < 0) = (s && decide (0 < (dg n.natAbs).length)) := by
    have h0 : 0 < (dg n.natAbs).length ↔ V xs ≠ 0 := by
      have h1 : (dg n.natAbs).length = 0 ↔ V xs = 0 := by rw [List.length_eq_zero_iff, dg_eq_nil]; omega
      omega
    rw [hn] at *
    cases s with
    | true =>
      simp only [iv, if_true, Bool.true_and] at *
      exact decide_eq_decide.2 (by omega)
    | false =>
      simp only [iv, Bool.false_eq_true, if_false, Bool.false_and] at *
      exact decide_eq_false (by omega)
  rw [habs] at hN
  clear h hn hv habs
  have HBB := Lib.hid hb
  clear hb
  go_enter Tryz.func135, Tryz.ntmps135
  go_wp2_with fail
  refine hN.out.mono ?_
  rintro e W1 ⟨A1, c1, rfl, q1, q2⟩
  replace HF := Lib.hid (HF.out.below q2)
  have Q1 := Lib.hid q1
  clear q1 q2 hN
  have hf0 := HF.out.frozenN 0 rfl 0
  have hf1 := HF.out.frozenN 0 rfl 1
  have hd0 := HF.out.cellN 0 rfl 0 rfl
  have hd1 := HF.out.cellN 0 rfl 1 rfl
  have HE := Lib.hid (end_int HF.out (by simp) (by simp) (by omega) Q1.out.cap Q1.out.row rfl)
  rw [HBB.out] at HE
  clear HBB
  cases s with
  | false =>
    rw [Bool.false_and] at HE
    go_wp2
    obtain ⟨f1, f2⟩ := HE.out
    exact post_own f2 rfl rfl rfl Tryz.underlying41 rfl (by kernel_rfl) f1
  | true =>
    rw [Bool.true_and] at HE
    by_cases hu : 0 < (dg n.natAbs).length
    · rw [decide_eq_true hu] at HE
      go_wp2
      obtain ⟨f1, f2⟩ := HE.out
      exact post_own f2 rfl rfl rfl Tryz.underlying41 rfl (by kernel_rfl) f1
    · rw [decide_eq_false hu] at HE
      go_wp2
      obtain ⟨f1, f2⟩ := HE.out
      exact post_own f2 rfl rfl rfl Tryz.underlying41 rfl (by kernel_rfl) f1
set_option maxHeartbeats 1000000 in
set_option maxRecDepth 100000 in
theorem r2_Norm (s : Bool) (A : Option Addr) (c : Nat) (xs : List Int) (w : World) (h : In w A c xs) (hm : xs.length ≤ 2199023255552) :
    Calls Tryz.prog 153 #[.agg #[.bool s, .slice A xs.length c]] w fun e w' => ToldI w (iv s (V xs)) e w' := by
  have hM := Lib.hid (fun (W : World) (hb : Below w.heap.size w W) => r2_made s A c xs W (h.below hb) hm _ rfl)
  clear h
  generalize iv s (V xs) = n at *
  have HF := Lib.hid (((Fr.refl w).box [.bool s, .slice A xs.length c] 41).box [.bool false, .slice none 0 0] 41)
  have hsz : (w.alloc (.cells #[.bool s, .slice A xs.length c] 41)).heap.size = w.heap.size + 1 := by simp
  rw [show [Value.bool s, Value.slice A xs.length c].toArray = #[Value.bool s, Value.slice A xs.length c] from rfl, hsz] at HF
  clear hsz
  go_enter Tryz.func153, Tryz.ntmps153
  go_wp2_with fail
  refine (hM.out _ HF.out.bel).mono ?_
  rintro e W1 ⟨A1, c1, rfl, q1, q2, q3⟩
  replace HF := Lib.hid (HF.out.below q3)
  have Q2 := Lib.hid q2
  clear q2 q3 hM
  have hf0 := HF.out.frozenN 0 rfl 0
  have hf1 := HF.out.frozenN 0 rfl 1
  have hd0 := HF.out.cellN 0 rfl 0 rfl
  have hd1 := HF.out.cellN 0 rfl 1 rfl
  have HE := Lib.hid (end_int HF.out (by simp) (by simp) (by omega) q1 Q2.out rfl)
  generalize decide (n < 0) = b at HE ⊢
  go_wp2
  obtain ⟨f1, f2⟩ := HE.out
  exact post_own f2 rfl rfl rfl Tryz.underlying41 rfl (by kernel_rfl) f1
end Go.Proofs.YtidgpkccjcddgaaGreatDoor.F
/- The walks of the reference's layer 2, second part: Of, Sign, Mul, Add. -/
namespace Go.Proofs.YtidgpkccjcddgaaGreatDoor.F
open Go.RowKit Go.Shelf Go.Proofs.YtidgpkccjcddgaaGreatDoorW.PrintLast
set_option maxHeartbeats 1000000 in
set_option maxRecDepth 100000 in
theorem r2_Of (n : Int) (w : World) (h0 : -9223372036854775808 ≤ n) (h1 : n ≤ 9223372036854775807) :
    Calls Tryz.prog 65 #[.int .i64 n] w fun e w' => ToldI w n e w' := by
  have HF := Lib.hid ((Fr.refl w).box [.bool false, .slice none 0 0] 41)
  have hO := Lib.hid (fun (W : World) => (r1_Of (n.natAbs : Int) W (by omega) (by omega)).mono fun e w' hh => Told.nat hh)
  have hlen : (dg n.natAbs).length ≤ 2199023255552 := by
    have h2 : (dg n.natAbs).length ≤ 2 := dg_length_le (by show _ < (4294967296 : Int) ^ 2; omega)
    omega
  have hN := Lib.hid (fun (W : World) (A' : Option Addr) (c' : Nat) (hr : In W A' c' (dg n.natAbs)) => r2_made (decide (n < 0)) A' c' (dg n.natAbs) W hr hlen n (iv_can n).symm)
  clear hlen
  by_cases hn : n < 0
  · have e1 : IntKind.u64.wrap n = n + 18446744073709551616 := by rw [IntKind.wrap_u64]; omega
    have e2 : IntKind.u64.wrap (0 - (n + 18446744073709551616)) = (n.natAbs : Int) := by rw [IntKind.wrap_u64]; omega
    have e3 : IntKind.u64.wrap (-(n + 18446744073709551616)) = (n.natAbs : Int) := by rw [IntKind.wrap_u64]; omega
    rw [decide_eq_true hn] at hN
    go_enter Tryz.func65, Tryz.ntmps65
    go_wp2_with fail
    refine (hO.out _).mono ?_
    rintro e W1 ⟨A1, c1, rfl, q1, q2⟩
    replace HF := Lib.hid (HF.out.below q2)
    have Q1 := Lib.hid q1
    clear q1 q2 e1 e2 e3
    go_wp2_with fail
    refine (hN.out W1 A1 c1 Q1.out).mono ?_
    rintro e W2 ⟨A2, c2, rfl, r1, r2, r3⟩
    replace HF := Lib.hid (HF.out.below r3)
    have Q2 := Lib.hid r2
    clear r2 r3
    have hf0 := HF.out.frozenN 0 rfl 0
    have hf1 := HF.out.frozenN 0 rfl 1
    have hd0 := HF.out.cellN 0 rfl 0 rfl
    have hd1 := HF.out.cellN 0 rfl 1 rfl
    have HE := Lib.hid (end_int HF.out (by simp) (by simp) (by omega) r1 Q2.out rfl)
    generalize decide (n < 0) = b at HE ⊢
    go_wp2
    obtain ⟨f1, f2⟩ := HE.out
    exact post_own f2 rfl rfl rfl Tryz.underlying41 rfl (by kernel_rfl) f1
  · have e1 : IntKind.u64.wrap n = (n.natAbs : Int) := by rw [IntKind.wrap_u64]; omega
    rw [decide_eq_false hn] at hN
    go_enter Tryz.func65, Tryz.ntmps65
    go_wp2_with fail
    refine (hO.out _).mono ?_
    rintro e W1 ⟨A1, c1, rfl, q1, q2⟩
    replace HF := Lib.hid (HF.out.below q2)
    have Q1 := Lib.hid q1
    clear q1 q2 e1
    go_wp2_with fail
    refine (hN.out W1 A1 c1 Q1.out).mono ?_
    rintro e W2 ⟨A2, c2, rfl, r1, r2, r3⟩
    replace HF := Lib.hid (HF.out.below r3)
    have Q2 := Lib.hid r2
    clear r2 r3
    have hf0 := HF.out.frozenN 0 rfl 0
    have hf1 := HF.out.frozenN 0 rfl 1
    have hd0 := HF.out.cellN 0 rfl 0 rfl
    have hd1 := HF.out.cellN 0 rfl 1 rfl
    have HE := Lib.hid (end_int HF.out (by simp) (by simp) (by omega) r1 Q2.out rfl)
    generalize decide (n < 0) = b at HE ⊢
    go_wp2
    obtain ⟨f1, f2⟩ := HE.out
    exact post_own f2 rfl rfl rfl Tryz.underlying41 rfl (by kernel_rfl) f1
set_option maxHeartbeats 1000000 in
set_option maxRecDepth 100000 in
theorem r2_Mul (s : Bool) (A : Option Addr) (c : Nat) (xs : List Int) (t : Bool) (B : Option Addr) (d : Nat) (ys : List Int) (w : World) (h : In w A c xs) (hm : xs.length ≤ 549755813888) (k : In w B d ys) (km : ys.length ≤ 549755813888) :
    Calls Tryz.prog 250 #[.agg #[.bool s, .slice A xs.length c], .agg #[.bool t, .slice B ys.length d]] w fun e w' => ToldI w (iv s (V xs) * iv t (V ys)) e w' := by
  have hv := V_nonneg h.lim
  have ku := V_nonneg k.lim
  have hp := Int.mul_nonneg hv ku
  obtain ⟨p, hpe⟩ : ∃ p, p = (V xs * V ys).toNat := ⟨_, rfl⟩
  have hpv : V xs * V ys = (p : Int) := by omega
  have hM := Lib.hid (fun (W : World) (hb : Below w.heap.size w W) => (r1_Mul A c xs B d ys W (h.below hb) hm (k.below hb) km).mono fun e w' hh => Told.nat (n := p) (hpv ▸ hh))
  have hlp : (dg p).length ≤ 2199023255552 := by
    have h1 := iv_lt h.lim false
    have h2 := iv_lt k.lim false
    have h3 := dg_length_le (abs_mul_lt h1 h2)
    simp only [iv] at h3
    have h5 : ((if false = true then -V xs else V xs) * if false = true then -V ys else V ys) = V xs * V ys := rfl
    rw [h5, hpv, Int.natAbs_natCast] at h3
    omega
  have hN := Lib.hid (fun (W : World) (A' : Option Addr) (c' : Nat) (hr : In W A' c' (dg p)) => r2_made (s != t) A' c' (dg p) W hr hlp (iv s (V xs) * iv t (V ys)) (by
    rw [V_dg, ← hpv]
    cases s <;> cases t <;> simp [iv, Int.mul_neg, Int.neg_mul]))
  clear hlp h k hv ku hp hpe hpv
  generalize iv s (V xs) * iv t (V ys) = n at *
  have HF := Lib.hid ((((Fr.refl w).box [.bool s, .slice A xs.length c] 41).box [.bool t, .slice B ys.length d] 41).box [.bool false, .slice none 0 0] 41)
  have hsz : (w.alloc (.cells #[.bool s, .slice A xs.length c] 41)).heap.size = w.heap.size + 1 := by simp
  have hsz2 : ((w.alloc (.cells #[.bool s, .slice A xs.length c] 41)).alloc (.cells #[.bool t, .slice B ys.length d] 41)).heap.size = w.heap.size + 2 := by simp
  rw [show [Value.bool s, Value.slice A xs.length c].toArray = #[Value.bool s, Value.slice A xs.length c] from rfl, hsz, show [Value.bool t, Value.slice B ys.length d].toArray = #[Value.bool t, Value.slice B ys.length d] from rfl, hsz2] at HF
  clear hsz hsz2
  go_enter Tryz.func250, Tryz.ntmps250
  go_wp2_with fail
  generalize ((w.alloc (Obj.cells #[Value.bool s, Value.slice A xs.length c] 41)).alloc (Obj.cells #[Value.bool t, Value.slice B ys.length d] 41)).alloc (Obj.cells #[Value.bool false, Value.slice none 0 0] 41) = W at *
  have HF_ := Lib.hid HF.out.drew
  clear HF
  have HF := HF_
  clear HF_
  refine start_ (n := 12) (S := fun w' => w'.cell? ⟨w.heap.size, 0, none⟩ = some (.bool s) ∧ w'.cell? ⟨w.heap.size, 1, none⟩ = some (.slice A xs.length c) ∧ w'.cell? ⟨w.heap.size + 1, 0, none⟩ = some (.bool t) ∧ w'.cell? ⟨w.heap.size + 1, 1, none⟩ = some (.slice B ys.length d)) (ds := []) #[false, false, false, false, false, false, false, false, false, false, false, false] (by kernel_rfl) rfl rfl ⟨HF.out.cellN 2 rfl 0 rfl, HF.out.cellN 2 rfl 1 rfl, HF.out.cellN 1 rfl 0 rfl, HF.out.cellN 1 rfl 1 rfl⟩ (fun hHeld => ?_)
  generalize World.drew _ = W at *
  refine pu_ (v := ?_) (a' := ?_) 0 (some 5) rfl rfl ?_ ?_ ?_
  rotate_left; · intro w'; go_simp; with_reducible rfl
  rotate_left; · simp only [Act.put, s1, s2, s3]; rfl
  refine pu_ (v := ?_) (a' := ?_) 2 (some 7) rfl rfl ?_ ?_ ?_
  rotate_left; · intro w'; go_simp; with_reducible rfl
  rotate_left; · simp only [Act.put, s1, s2, s3]; rfl
  refine pu_ (v := ?_) (a' := ?_) 5 (some 10) rfl rfl ?_ ?_ ?_
  rotate_left; · intro w'; go_simp; with_reducible rfl
  rotate_left; · simp only [Act.put, s1, s2, s3]; rfl
  refine pu_ (v := ?_) (a' := ?_) 7 (some 12) rfl rfl ?_ ?_ ?_
  rotate_left; · intro w'; go_simp; with_reducible rfl
  rotate_left; · simp only [Act.put, s1, s2, s3]; rfl
  refine tk_ (v := ?_) (a' := ?_) 1 (some 6) rfl rfl ?_ hHeld ?_ ?_
  rotate_left
  · rintro w' ⟨s0, s1, s2, s3⟩; go_simp; with_reducible rfl
  rotate_left; · simp only [Act.put, s1, s2, s3]; rfl
  refine tk_ (v := ?_) (a' := ?_) 3 (some 8) rfl rfl ?_ hHeld ?_ ?_
  rotate_left
  · rintro w' ⟨s0, s1, s2, s3⟩; go_simp; with_reducible rfl
  rotate_left; · simp only [Act.put, s1, s2, s3]; rfl
  refine pu_ (v := ?_) (a' := ?_) 4 (some 9) rfl rfl ?_ ?_ ?_
  rotate_left; · intro w'; go_simp; with_reducible rfl
  rotate_left; · simp only [Act.put, s1, s2, s3]; rfl
  refine tk_ (v := ?_) (a' := ?_) 6 (some 11) rfl rfl ?_ hHeld ?_ ?_
  rotate_left
  · rintro w' ⟨s0, s1, s2, s3⟩; go_simp; with_reducible rfl
  rotate_left; · simp only [Act.put, s1, s2, s3]; rfl
  refine tk_ (v := ?_) (a' := ?_) 8 (some 13) rfl rfl ?_ hHeld ?_ ?_
  rotate_left
  · rintro w' ⟨s0, s1, s2, s3⟩; go_simp; with_reducible rfl
  rotate_left; · simp only [Act.put, s1, s2, s3]; rfl
  refine on_ 9 (N := (some 14)) rfl rfl (fun K hK => ?_)
  refine goes_ Tryz.func192 (by kernel_rfl) rfl #[.slice A xs.length c, .slice B ys.length d] (by rfl) rfl rfl (by (try simp only [List.map_toArray, List.map_cons, List.map_nil]); first | done | rfl) ?_
  refine (hM.out W HF.out.bel).mono ?_
  rintro e W1 ⟨A1, c1, rfl, q1, q3⟩
  refine ⟨_, rfl, ?_⟩
  replace HF := Lib.hid (HF.out.below q3)
  have Q1 := Lib.hid q1
  clear q1 q3
  refine hK.out _ _ ⟨HF.out.cellN 2 rfl 0 rfl, HF.out.cellN 2 rfl 1 rfl, HF.out.cellN 1 rfl 0 rfl, HF.out.cellN 1 rfl 1 rfl⟩ (fun hHeld => ?_)
  clear hK K
  refine norm_ (a' := ?_) ?_ ?_
  rotate_left
  · show Act.put _ (some 14) _ = _
    simp only [Act.put, s1, s2, s3]; rfl
  refine on_ 10 (N := (some 15)) rfl rfl (fun K hK => ?_)
  refine goes_ Tryz.func135 (by kernel_rfl) rfl #[.bool (s != t), .slice A1 (dg p).length c1] (by rfl) rfl rfl (by (try simp only [List.map_toArray, List.map_cons, List.map_nil]); first | done | rfl) ?_
  refine (hN.out W1 A1 c1 Q1.out).mono ?_
  rintro e W2 ⟨A2, c2, rfl, q4, q2, q3⟩
  refine ⟨_, rfl, ?_⟩
  replace HF := Lib.hid (HF.out.below q3)
  have Q2 := Lib.hid q2
  clear q2 q3
  refine hK.out _ _ ⟨HF.out.cellN 2 rfl 0 rfl, HF.out.cellN 2 rfl 1 rfl, HF.out.cellN 1 rfl 0 rfl, HF.out.cellN 1 rfl 1 rfl⟩ (fun hHeld => ?_)
  clear hK K
  refine norm_ (a' := ?_) ?_ ?_
  rotate_left
  · show Act.put _ (some 15) _ = _
    simp only [Act.put, s1, s2, s3]; rfl
  refine on_ 11 (N := none) rfl rfl (fun K hK => ?_)
  have hf0 := HF.out.frozenN 0 rfl 0
  have hf1 := HF.out.frozenN 0 rfl 1
  have hd0 := HF.out.cellN 0 rfl 0 rfl
  have hd1 := HF.out.cellN 0 rfl 1 rfl
  refine skip_ (w1 := ?_) (by rfl) rfl ?_ ?_
  rotate_left
  · go_simp
    rfl
  have HE := Lib.hid (end_int HF.out (by simp) (by simp) (by omega) q4 Q2.out rfl)
  replace HF := Lib.hid ((HF.out.set (by omega) (by simp) 0 (.bool (decide (n < 0)))).set (by omega) (by simp) 1 (.slice A2 (dg n.natAbs).length c2))
  refine hK.out _ _ ⟨HF.out.cellN 2 rfl 0 rfl, HF.out.cellN 2 rfl 1 rfl, HF.out.cellN 1 rfl 0 rfl, HF.out.cellN 1 rfl 1 rfl⟩ (fun hHeld => ?_)
  clear hK K
  refine done_ (by kernel_rfl) ?_
  generalize decide (n < 0) = b at HE ⊢
  go_wp2
  obtain ⟨f1, f2⟩ := HE.out
  exact post_own f2 rfl rfl rfl Tryz.underlying41 rfl (by kernel_rfl) f1
end Go.Proofs.YtidgpkccjcddgaaGreatDoor.F
/- The walks of the reference's layer 2, third part: Add, Sign. -/
namespace Go.Proofs.YtidgpkccjcddgaaGreatDoor.F
open Go.RowKit Go.Shelf Go.Proofs.YtidgpkccjcddgaaGreatDoorW.PrintLast
set_option maxHeartbeats 1000000 in
set_option maxRecDepth 100000 in
theorem r2_Add (s : Bool) (A : Option Addr) (c : Nat) (xs : List Int) (t : Bool) (B : Option Addr) (d : Nat) (ys : List Int) (w : World) (h : In w A c xs) (hm : xs.length ≤ 1099511627776) (k : In w B d ys) (km : ys.length ≤ 1099511627776) :
    Calls Tryz.prog 249 #[.agg #[.bool s, .slice A xs.length c], .agg #[.bool t, .slice B ys.length d]] w fun e w' => ToldI w (iv s (V xs) + iv t (V ys)) e w' := by
  have hv := V_nonneg h.lim
  have ku := V_nonneg k.lim
  obtain ⟨X, hX⟩ : ∃ X : Nat, V xs = (X : Int) := ⟨(V xs).toNat, by omega⟩
  obtain ⟨Y, hY⟩ : ∃ Y : Nat, V ys = (Y : Int) := ⟨(V ys).toNat, by omega⟩
  have hA := Lib.hid (fun (W : World) (hb : Below w.heap.size w W) => (r1_Add A c xs B d ys W (h.below hb) hm (k.below hb) km).mono fun e w' hh => Told.nat (n := X + Y) (by rw [Int.natCast_add, ← hX, ← hY]; exact hh))
  have hC := Lib.hid (fun (W : World) (hb : Below w.heap.size w W) => r1_Cmp A c xs B d ys W (h.below hb) (by omega) (k.below hb) (by omega))
  have hD1 := Lib.hid (fun (W : World) (hb : Below w.heap.size w W) (hle : Y ≤ X) => (r1_Sub A c xs B d ys W (h.below hb) hm (k.below hb) km (by omega)).mono (R' := fun e w' => ∃ A' c', e = .returned (.tuple #[.slice A' (dg (X - Y)).length c', .int .i64 0]) ∧ In w' A' c' (dg (X - Y)) ∧ Below W.heap.size W w') fun e w' hh => by
    obtain ⟨A', c', h1, h2, h3, h4⟩ := hh
    rw [hX, hY, show ((X : Int) - (Y : Int)).toNat = X - Y by omega] at h1 h2 h3
    exact ⟨A', c', h1, In.dg h3 h2, h4⟩)
  have hD2 := Lib.hid (fun (W : World) (hb : Below w.heap.size w W) (hle : X ≤ Y) => (r1_Sub B d ys A c xs W (k.below hb) km (h.below hb) hm (by omega)).mono (R' := fun e w' => ∃ A' c', e = .returned (.tuple #[.slice A' (dg (Y - X)).length c', .int .i64 0]) ∧ In w' A' c' (dg (Y - X)) ∧ Below W.heap.size W w') fun e w' hh => by
    obtain ⟨A', c', h1, h2, h3, h4⟩ := hh
    rw [hX, hY, show ((Y : Int) - (X : Int)).toNat = Y - X by omega] at h1 h2 h3
    exact ⟨A', c', h1, In.dg h3 h2, h4⟩)
  have hlen : ∀ z : Nat, z ≤ X + Y → (dg z).length ≤ 2199023255552 := fun z hz => by
    have h1 := V_lt h.lim
    have h2 := V_lt k.lim
    have h3 : Bp xs.length ≤ Bp 1099511627776 := Bp_le hm
    have h4 : Bp ys.length ≤ Bp 1099511627776 := Bp_le km
    have h5 := Bp_succ 1099511627776
    have h6 := Bp_pos 1099511627776
    have h7 : (dg z).length ≤ 1099511627776 + 1 := dg_length_le (by omega)
    omega
  have hN := Lib.hid (fun (W : World) (u : Bool) (A' : Option Addr) (c' z : Nat) (hr : In W A' c' (dg z)) (hz : z ≤ X + Y) (n : Int) (hn : n = iv u (z : Int)) => r2_made u A' c' (dg z) W hr (hlen z hz) n (by rw [V_dg]; exact hn))
  clear hlen h k hv ku
  obtain ⟨n, hn⟩ : ∃ n, n = iv s (V xs) + iv t (V ys) := ⟨_, rfl⟩
  rw [← hn]
  rw [hX, hY] at hn hC
  have HNE := Lib.hid hn
  clear hn hX hY
  have HF := Lib.hid ((((Fr.refl w).box [.bool s, .slice A xs.length c] 41).box [.bool t, .slice B ys.length d] 41).box [.bool false, .slice none 0 0] 41)
  have hsz : (w.alloc (.cells #[.bool s, .slice A xs.length c] 41)).heap.size = w.heap.size + 1 := by simp
  have hsz2 : ((w.alloc (.cells #[.bool s, .slice A xs.length c] 41)).alloc (.cells #[.bool t, .slice B ys.length d] 41)).heap.size = w.heap.size + 2 := by simp
  rw [show [Value.bool s, Value.slice A xs.length c].toArray = #[Value.bool s, Value.slice A xs.length c] from rfl, hsz, show [Value.bool t, Value.slice B ys.length d].toArray = #[Value.bool t, Value.slice B ys.length d] from rfl, hsz2] at HF
  clear hsz hsz2
  by_cases hst : s = t
  · subst hst
    have hn1 := Lib.hid (show n = iv s ((X + Y : Nat) : Int) from by rw [HNE.out]; cases s <;> simp [iv] <;> omega)
    go_enter Tryz.func249, Tryz.ntmps249
    go_wp2_with fail
    generalize ((w.alloc (Obj.cells #[Value.bool s, Value.slice A xs.length c] 41)).alloc (Obj.cells #[Value.bool s, Value.slice B ys.length d] 41)).alloc (Obj.cells #[Value.bool false, Value.slice none 0 0] 41) = W at *
    have HF_ := Lib.hid HF.out.drew
    clear HF
    have HF := HF_
    clear HF_
    refine start_ (n := 9) (S := fun w' => w'.cell? ⟨w.heap.size, 0, none⟩ = some (.bool s) ∧ w'.cell? ⟨w.heap.size, 1, none⟩ = some (.slice A xs.length c) ∧ w'.cell? ⟨w.heap.size + 1, 0, none⟩ = some (.bool s) ∧ w'.cell? ⟨w.heap.size + 1, 1, none⟩ = some (.slice B ys.length d)) (ds := []) #[false, false, false, false, false, false, false, false, false] (by kernel_rfl) rfl rfl ⟨HF.out.cellN 2 rfl 0 rfl, HF.out.cellN 2 rfl 1 rfl, HF.out.cellN 1 rfl 0 rfl, HF.out.cellN 1 rfl 1 rfl⟩ (fun hHeld => ?_)
    generalize World.drew _ = W at *
    refine pu_ (v := ?_) (a' := ?_) 0 (some 14) rfl rfl ?_ ?_ ?_
    rotate_left; · intro w'; go_simp; with_reducible rfl
    rotate_left; · simp only [Act.put, s1, s2, s3]; rfl
    refine pu_ (v := ?_) (a' := ?_) 2 (some 16) rfl rfl ?_ ?_ ?_
    rotate_left; · intro w'; go_simp; with_reducible rfl
    rotate_left; · simp only [Act.put, s1, s2, s3]; rfl
    refine pu_ (v := ?_) (a' := ?_) 4 (some 18) rfl rfl ?_ ?_ ?_
    rotate_left; · intro w'; go_simp; with_reducible rfl
    rotate_left; · simp only [Act.put, s1, s2, s3]; rfl
    refine tk_ (v := ?_) (a' := ?_) 1 (some 15) rfl rfl ?_ hHeld ?_ ?_
    rotate_left
    · rintro w' ⟨s0, s1, s2, s3⟩; go_simp; with_reducible rfl
    rotate_left; · simp only [Act.put, s1, s2, s3]; rfl
    refine tk_ (v := ?_) (a' := ?_) 3 (some 17) rfl rfl ?_ hHeld ?_ ?_
    rotate_left
    · rintro w' ⟨s0, s1, s2, s3⟩; go_simp; with_reducible rfl
    rotate_left; · simp only [Act.put, s1, s2, s3]; rfl
    refine tk_ (v := ?_) (a' := ?_) 5 (some 19) rfl rfl ?_ hHeld ?_ ?_
    rotate_left
    · rintro w' ⟨s0, s1, s2, s3⟩; go_simp; with_reducible rfl
    rotate_left; · simp only [Act.put, s1, s2, s3]; rfl
    refine on_ 6 (N := (some 20)) rfl rfl (fun K hK => ?_)
    refine goes_ Tryz.func191 (by kernel_rfl) rfl #[.slice A xs.length c, .slice B ys.length d] (by rfl) rfl rfl (by (try simp only [List.map_toArray, List.map_cons, List.map_nil]); first | done | rfl) ?_
    refine (hA.out W HF.out.bel).mono ?_
    rintro e W1 ⟨A1, c1, rfl, q1, q3⟩
    refine ⟨_, rfl, ?_⟩
    replace HF := Lib.hid (HF.out.below q3)
    have Q1 := Lib.hid q1
    clear q1 q3
    refine hK.out _ _ ⟨HF.out.cellN 2 rfl 0 rfl, HF.out.cellN 2 rfl 1 rfl, HF.out.cellN 1 rfl 0 rfl, HF.out.cellN 1 rfl 1 rfl⟩ (fun hHeld => ?_)
    clear hK K
    refine norm_ (a' := ?_) ?_ ?_
    rotate_left
    · show Act.put _ (some 20) _ = _
      simp only [Act.put, s1, s2, s3]; rfl
    refine on_ 7 (N := (some 21)) rfl rfl (fun K hK => ?_)
    refine goes_ Tryz.func135 (by kernel_rfl) rfl #[.bool s, .slice A1 (dg (X + Y)).length c1] (by rfl) rfl rfl (by (try simp only [List.map_toArray, List.map_cons, List.map_nil]); first | done | rfl) ?_
    refine (hN.out W1 s A1 c1 (X + Y) Q1.out (Nat.le_refl _) n hn1.out).mono ?_
    rintro e W2 ⟨A2, c2, rfl, q4, q2, q3⟩
    refine ⟨_, rfl, ?_⟩
    replace HF := Lib.hid (HF.out.below q3)
    have Q2 := Lib.hid q2
    clear q2 q3
    refine hK.out _ _ ⟨HF.out.cellN 2 rfl 0 rfl, HF.out.cellN 2 rfl 1 rfl, HF.out.cellN 1 rfl 0 rfl, HF.out.cellN 1 rfl 1 rfl⟩ (fun hHeld => ?_)
    clear hK K
    refine norm_ (a' := ?_) ?_ ?_
    rotate_left
    · show Act.put _ (some 21) _ = _
      simp only [Act.put, s1, s2, s3]; rfl
    refine on_ 8 (N := none) rfl rfl (fun K hK => ?_)
    have hf0 := HF.out.frozenN 0 rfl 0
    have hf1 := HF.out.frozenN 0 rfl 1
    have hd0 := HF.out.cellN 0 rfl 0 rfl
    have hd1 := HF.out.cellN 0 rfl 1 rfl
    refine skip_ (w1 := ?_) (by rfl) rfl ?_ ?_
    rotate_left
    · go_simp
      rfl
    have HE := Lib.hid (end_int HF.out (by simp) (by simp) (by omega) q4 Q2.out rfl)
    replace HF := Lib.hid ((HF.out.set (by omega) (by simp) 0 (.bool (decide (n < 0)))).set (by omega) (by simp) 1 (.slice A2 (dg n.natAbs).length c2))
    refine hK.out _ _ ⟨HF.out.cellN 2 rfl 0 rfl, HF.out.cellN 2 rfl 1 rfl, HF.out.cellN 1 rfl 0 rfl, HF.out.cellN 1 rfl 1 rfl⟩ (fun hHeld => ?_)
    clear hK K
    refine done_ (by kernel_rfl) ?_
    generalize decide (n < 0) = b at HE ⊢
    go_wp2
    obtain ⟨f1, f2⟩ := HE.out
    exact post_own f2 rfl rfl rfl Tryz.underlying41 rfl (by kernel_rfl) f1
  · have hst2 : (s == t) = false := by simpa using hst
    have hsn : Hid (t = !s) := by show _ = _; cases s <;> cases t <;> simp_all
    have hn1 := Lib.hid (fun (hle : Y ≤ X) => show n = iv s ((X - Y : Nat) : Int) from by rw [HNE.out, hsn.out]; cases s <;> simp [iv] <;> omega)
    have hn2 := Lib.hid (fun (hle : X ≤ Y) => show n = iv t ((Y - X : Nat) : Int) from by rw [HNE.out, hsn.out]; cases s <;> simp [iv] <;> omega)
    clear hst
    go_enter Tryz.func249, Tryz.ntmps249
    go_wp2_with fail
    generalize ((w.alloc (Obj.cells #[Value.bool s, Value.slice A xs.length c] 41)).alloc (Obj.cells #[Value.bool t, Value.slice B ys.length d] 41)).alloc (Obj.cells #[Value.bool false, Value.slice none 0 0] 41) = W at *
    refine (hC.out W HF.out.bel).mono ?_
    rintro e W1 ⟨rfl, rfl⟩
    have hc0 := HF.out.cellN 2 rfl 0 rfl
    have hc1 := HF.out.cellN 2 rfl 1 rfl
    have hc2 := HF.out.cellN 1 rfl 0 rfl
    have hc3 := HF.out.cellN 1 rfl 1 rfl
    have hsg : 0 ≤ sgn ((X : Int) - (Y : Int)) ↔ Y ≤ X := by unfold sgn; repeat' split <;> omega
    generalize sgn ((X : Int) - (Y : Int)) = q at *
    by_cases hle : Y ≤ X
    · have hq : 0 ≤ q := hsg.2 hle
      clear hsg
      go_wp2_with fail
      refine (hD1.out W1 HF.out.bel hle).mono ?_
      rintro e W2 ⟨A1, c1, rfl, q1, q2⟩
      replace HF := Lib.hid (HF.out.below q2)
      have Q1 := Lib.hid q1
      clear q1 q2 hc0 hc1 hc2 hc3
      have hc0 := HF.out.cellN 2 rfl 0 rfl
      have hc2 := HF.out.cellN 1 rfl 0 rfl
      go_wp2_with fail
      refine (hN.out W2 s A1 c1 (X - Y) Q1.out (by omega) n (hn1.out hle)).mono ?_
      rintro e W3 ⟨A2, c2, rfl, r1, r2, r3⟩
      replace HF := Lib.hid (HF.out.below r3)
      have Q2 := Lib.hid r2
      clear r2 r3 hc0 hc2
      have hf0 := HF.out.frozenN 0 rfl 0
      have hf1 := HF.out.frozenN 0 rfl 1
      have hd0 := HF.out.cellN 0 rfl 0 rfl
      have hd1 := HF.out.cellN 0 rfl 1 rfl
      have HE := Lib.hid (end_int HF.out (by simp) (by simp) (by omega) r1 Q2.out rfl)
      generalize decide (n < 0) = b at HE ⊢
      go_wp2
      obtain ⟨f1, f2⟩ := HE.out
      exact post_own f2 rfl rfl rfl Tryz.underlying41 rfl (by kernel_rfl) f1
    · have hq : ¬ 0 ≤ q := fun h => hle (hsg.1 h)
      clear hsg
      go_wp2_with fail
      refine (hD2.out W1 HF.out.bel (by omega)).mono ?_
      rintro e W2 ⟨A1, c1, rfl, q1, q2⟩
      replace HF := Lib.hid (HF.out.below q2)
      have Q1 := Lib.hid q1
      clear q1 q2 hc0 hc1 hc2 hc3
      have hc0 := HF.out.cellN 2 rfl 0 rfl
      have hc2 := HF.out.cellN 1 rfl 0 rfl
      go_wp2_with fail
      refine (hN.out W2 t A1 c1 (Y - X) Q1.out (by omega) n (hn2.out (by omega))).mono ?_
      rintro e W3 ⟨A2, c2, rfl, r1, r2, r3⟩
      replace HF := Lib.hid (HF.out.below r3)
      have Q2 := Lib.hid r2
      clear r2 r3 hc0 hc2
      have hf0 := HF.out.frozenN 0 rfl 0
      have hf1 := HF.out.frozenN 0 rfl 1
      have hd0 := HF.out.cellN 0 rfl 0 rfl
      have hd1 := HF.out.cellN 0 rfl 1 rfl
      have HE := Lib.hid (end_int HF.out (by simp) (by simp) (by omega) r1 Q2.out rfl)
      generalize decide (n < 0) = b at HE ⊢
      go_wp2
      obtain ⟨f1, f2⟩ := HE.out
      exact post_own f2 rfl rfl rfl Tryz.underlying41 rfl (by kernel_rfl) f1
set_option maxHeartbeats 1000000 in
set_option maxRecDepth 100000 in
theorem r2_Sign (s : Bool) (A : Option Addr) (c : Nat) (xs : List Int) (w : World) (h : In w A c xs) (hm : xs.length ≤ 2199023255552) :
    Calls Tryz.prog 134 #[.agg #[.bool s, .slice A xs.length c]] w fun e w' => e = .returned (.int .i64 (sgn (iv s (V xs)))) ∧ Below w.heap.size w w' := by
  have hN := Lib.hid (fun (W : World) (hb : Below w.heap.size w W) => r2_Norm s A c xs W (h.below hb) hm)
  clear h
  generalize iv s (V xs) = n at *
  have HF := Lib.hid ((Fr.refl w).box [.bool s, .slice A xs.length c] 41)
  rw [show [Value.bool s, Value.slice A xs.length c].toArray = #[Value.bool s, Value.slice A xs.length c] from rfl] at HF
  have hl0 : (dg n.natAbs).length = 0 ↔ n = 0 := by rw [List.length_eq_zero_iff, dg_eq_nil]; omega
  obtain ⟨r, hr⟩ : ∃ r, r = sgn n := ⟨_, rfl⟩
  rw [← hr]
  have HRR := Lib.hid hr
  clear hr
  go_enter Tryz.func134, Tryz.ntmps134
  go_wp2_with fail
  refine (hN.out _ HF.out.bel).mono ?_
  rintro e W1 ⟨A1, c1, rfl, q1, q2, q3⟩
  replace HF := Lib.hid (HF.out.below q3)
  clear q1 q2 q3 hN
  have HB := Lib.hid HF.out.bel
  by_cases hn : n < 0
  · obtain rfl : r = -1 := by rw [HRR.out]; unfold sgn; rw [if_pos hn]
    clear HRR
    generalize hb : decide (n < 0) = b
    obtain rfl : b = true := by rw [← hb]; exact decide_eq_true hn
    clear hb hl0 hn
    go_wp2
    go_ret
    exact ⟨rfl, HB.out.alloc HB.out.size _⟩
  · generalize hb : decide (n < 0) = b
    obtain rfl : b = false := by rw [← hb]; exact decide_eq_false hn
    clear hb
    by_cases h0 : n = 0
    · have hz : ¬ 0 < (dg n.natAbs).length := by omega
      obtain rfl : r = 0 := by rw [HRR.out]; unfold sgn; rw [if_neg hn, if_neg (by omega)]
      clear HRR
      generalize (dg n.natAbs).length = L at *
      clear hl0 hn h0
      go_wp2
      go_ret
      exact ⟨rfl, HB.out.alloc HB.out.size _⟩
    · have hz : 0 < (dg n.natAbs).length := by omega
      obtain rfl : r = 1 := by rw [HRR.out]; unfold sgn; rw [if_neg hn, if_pos (by omega)]
      clear HRR
      generalize (dg n.natAbs).length = L at *
      clear hl0 hn h0
      go_wp2
      go_ret
      exact ⟨rfl, HB.out.alloc HB.out.size _⟩
end Go.Proofs.YtidgpkccjcddgaaGreatDoor.F
/- The walks of the reference's layer 3, first part: Norm. -/
namespace Go.Proofs.YtidgpkccjcddgaaGreatDoor.F
open Go.RowKit Go.Shelf Go.Proofs.YtidgpkccjcddgaaGreatDoorW.PrintLast
theorem norm_q {n : Int} {y g : Nat} (hn : n ≠ 0) (hy : 0 < y) (hg : g = Nat.gcd n.natAbs y) : (mkRat n y).num.natAbs = n.natAbs / g ∧ (mkRat n y).den = y / g ∧ decide ((mkRat n y).num < 0) = decide (n < 0) := by
  have h1 := made_q (s := decide (n < 0)) (x := n.natAbs) hy hg
  have h2 : iv (decide (n < 0)) (n.natAbs : Int) = n := by
    unfold iv; split
    · rename_i h; have := of_decide_eq_true h; omega
    · rename_i h; have : ¬ n < 0 := by simpa using h
      omega
  rw [h2] at h1
  have hgp : 0 < g := hg ▸ Nat.gcd_pos_of_pos_right _ hy
  have hgd : g ∣ n.natAbs := hg ▸ Nat.gcd_dvd_left _ _
  have hq : 0 < n.natAbs / g := Nat.div_pos (Nat.le_of_dvd (by omega) hgd) hgp
  rw [h1.1, h1.2]
  generalize n.natAbs / g = m at *
  refine ⟨by unfold iv; split <;> omega, rfl, decide_eq_decide.2 ?_⟩
  unfold iv
  by_cases h3 : n < 0
  · rw [decide_eq_true h3, if_pos rfl]; omega
  · rw [decide_eq_false h3, if_neg (by simp)]; omega
set_option maxHeartbeats 2000000 in
set_option maxRecDepth 100000 in
theorem r3_Norm (s : Bool) (A : Option Addr) (c : Nat) (xs : List Int) (B : Option Addr) (d : Nat) (ys : List Int) (w : World) (h : In w A c xs) (hm : xs.length ≤ 549755813888) (k : In w B d ys) (km : ys.length ≤ 549755813888) :
    Calls Tryz.prog 91 #[.agg #[.bool s, .slice A xs.length c, .slice B ys.length d]] w fun e w' => ToldQ w (rv s xs ys) e w' := by
  have hN1 := Lib.hid (fun (W : World) (hb : Below w.heap.size w W) => r2_Norm s A c xs W (h.below hb) (by omega))
  have hN2 := Lib.hid (fun (W : World) (hb : Below w.heap.size w W) => r1_NormN B d ys W (k.below hb) (by omega))
  have hv := V_nonneg h.lim
  have ku := V_nonneg k.lim
  have l1 : (dg (V xs).toNat).length ≤ 549755813888 := Nat.le_trans (dg_len_of_V h.lim) hm
  have l2 : (dg (V ys).toNat).length ≤ 549755813888 := Nat.le_trans (dg_len_of_V k.lim) km
  have habs : (iv s (V xs)).natAbs = (V xs).toNat := iv_natAbs h.lim s
  rw [← habs] at l1
  obtain ⟨q, hq⟩ : ∃ q, q = rv s xs ys := ⟨_, rfl⟩
  rw [← hq]
  unfold rv at hq
  clear h k habs
  generalize iv s (V xs) = n at *
  generalize (V ys).toNat = Y at *
  have HQ := Lib.hid hq
  clear hq hv ku
  have HF := Lib.hid (((Fr.refl w).box [.bool s, .slice A xs.length c, .slice B ys.length d] 43).box [.bool false, .slice none 0 0, .slice none 0 0] 43)
  have hsz : (w.alloc (.cells #[.bool s, .slice A xs.length c, .slice B ys.length d] 43)).heap.size = w.heap.size + 1 := by simp
  rw [show [Value.bool s, Value.slice A xs.length c, Value.slice B ys.length d].toArray = #[Value.bool s, Value.slice A xs.length c, Value.slice B ys.length d] from rfl, hsz] at HF
  clear hsz
  go_enter Tryz.func91, Tryz.ntmps91
  go_wp2_with fail
  refine (hN1.out _ HF.out.bel).mono ?_
  clear hN1
  rintro e W1 ⟨A1, c1, rfl, q1, q2, q3⟩
  replace HF := Lib.hid (HF.out.below q3)
  have QN := Lib.hid (In.dg q2 q1)
  clear q1 q2 q3
  obtain ⟨b, hb⟩ : ∃ b, b = decide (n < 0) := ⟨_, rfl⟩
  have HBB := Lib.hid hb
  rw [← hb]
  clear hb
  have hal := Lib.hid ((Below.refl _ W1).alloc (Nat.le_refl _) (.cells #[.bool b, .slice A1 (dg n.natAbs).length c1] 41))
  replace QN := Lib.hid (QN.out.below hal.out)
  replace HF := Lib.hid (HF.out.boxEnd [.bool b, .slice A1 (dg n.natAbs).length c1] 41)
  clear hal
  have hc2 := HF.out.cellN 1 rfl 2 rfl
  go_wp2_with fail
  refine (hN2.out _ HF.out.bel).mono ?_
  clear hN2
  rintro e W2 ⟨B1, d1, rfl, q1, q2⟩
  replace HF := Lib.hid (HF.out.below q2)
  replace QN := Lib.hid (QN.out.below q2)
  have QD := Lib.hid q1
  clear q1 q2 hc2
  have hc0 := HF.out.cellN 2 rfl 0 rfl
  have hc1 := HF.out.cellN 2 rfl 1 rfl
  by_cases hY : Y = 0
  · subst hY
    obtain rfl : q = 0 := by rw [HQ.out]; exact Rat.mkRat_zero _
    have e3 : dg 0 = [] := dg_zero
    rw [e3] at *
    clear HQ HBB QN QD e3 l2
    have HG := Lib.hid (HF.out.box [.int .u32 1] 133)
    have hf0 := HG.out.frozenN 1 rfl 0
    have hf1 := HG.out.frozenN 1 rfl 1
    have hf2 := HG.out.frozenN 1 rfl 2
    have hd0 := HG.out.cellN 1 rfl 0 rfl
    have hd1 := HG.out.cellN 1 rfl 1 rfl
    have hd2 := HG.out.cellN 1 rfl 2 rfl
    have e0 : dg (0 : Rat).num.natAbs = [] := dg_zero
    have e1 : dg (0 : Rat).den = [1] := dg_one
    have HE := Lib.hid (end_rat (q := 0) (A := none) (c := 0) (B := some ⟨W2.heap.size, 0, none⟩) (d := 1) (HF.out.alloc (.cells #[.int .u32 1] 133)) (by simp) (by simp) (by omega) (by rw [e0]; exact In.nil _ _ _) (by rw [e1]; exact In.one (HG.out.cellN 0 rfl 0 rfl) (by omega) (by omega)) rfl)
    rw [e0, e1, show decide ((0 : Rat).num < 0) = false from rfl] at HE
    clear e0 e1
    go_wp2
    obtain ⟨f1, f2⟩ := HE.out
    exact post_own f2 rfl rfl rfl Tryz.underlying43 rfl (by kernel_rfl) f1
  · have hyl : 0 < (dg Y).length := by
      rcases Nat.eq_zero_or_pos (dg Y).length with h0 | h0
      · exact absurd (dg_eq_nil.1 (List.length_eq_zero_iff.1 h0)) (by omega)
      · exact h0
    have hyz : (((dg Y).length : Int) == 0) = false := by rw [beq_eq_false_iff_ne]; omega
    by_cases hn : n = 0
    · obtain rfl : q = 0 := by rw [HQ.out, hn]; exact Rat.zero_mkRat _
      have e3 : (dg n.natAbs).length = 0 := by rw [hn]; show (dg 0).length = 0; rw [dg_zero]; rfl
      have e4 : (((dg n.natAbs).length : Int) == 0) = true := by rw [e3]; rfl
      clear HQ HBB QN QD e3 hn
      have HG := Lib.hid (HF.out.box [.int .u32 1] 133)
      have hf0 := HG.out.frozenN 1 rfl 0
      have hf1 := HG.out.frozenN 1 rfl 1
      have hf2 := HG.out.frozenN 1 rfl 2
      have hd0 := HG.out.cellN 1 rfl 0 rfl
      have hd1 := HG.out.cellN 1 rfl 1 rfl
      have hd2 := HG.out.cellN 1 rfl 2 rfl
      have e0 : dg (0 : Rat).num.natAbs = [] := dg_zero
      have e1 : dg (0 : Rat).den = [1] := dg_one
      have HE := Lib.hid (end_rat (q := 0) (A := none) (c := 0) (B := some ⟨W2.heap.size, 0, none⟩) (d := 1) (HF.out.alloc (.cells #[.int .u32 1] 133)) (by simp) (by simp) (by omega) (by rw [e0]; exact In.nil _ _ _) (by rw [e1]; exact In.one (HG.out.cellN 0 rfl 0 rfl) (by omega) (by omega)) rfl)
      rw [e0, e1, show decide ((0 : Rat).num < 0) = false from rfl] at HE
      clear e0 e1
      go_wp2
      obtain ⟨f1, f2⟩ := HE.out
      exact post_own f2 rfl rfl rfl Tryz.underlying43 rfl (by kernel_rfl) f1
    · have hnl : 0 < (dg n.natAbs).length := by
        rcases Nat.eq_zero_or_pos (dg n.natAbs).length with h0 | h0
        · exact absurd (dg_eq_nil.1 (List.length_eq_zero_iff.1 h0)) (by omega)
        · exact h0
      have hnz : (((dg n.natAbs).length : Int) == 0) = false := by rw [beq_eq_false_iff_ne]; omega
      obtain ⟨g, hg⟩ : ∃ g, g = Nat.gcd n.natAbs Y := ⟨_, rfl⟩
      have hgp : 0 < g := hg ▸ Nat.gcd_pos_of_pos_right _ (by omega)
      have hgl : (dg g).length ≤ 549755813888 := Nat.le_trans (dg_length_mono (hg ▸ Nat.gcd_le_right _ (by omega))) l2
      have hnq := norm_q hn (by omega : 0 < Y) hg
      rw [← HQ.out, ← HBB.out] at hnq
      have HNQ := Lib.hid hnq
      have hGc := Lib.hid (r1_Gcd A1 c1 (dg n.natAbs) B1 d1 (dg Y) W2 QN.out l1 QD.out l2)
      simp only [V_dg, Int.toNat_natCast] at hGc
      rw [← hg] at hGc
      have hD1 := Lib.hid (fun (W : World) (A' : Option Addr) (c' : Nat) (hb : Below W2.heap.size W2 W) (hr : In W A' c' (dg g)) => r1_Div A1 c1 (dg n.natAbs) A' c' (dg g) W (QN.out.below hb) l1 hr hgl (by rw [V_dg]; omega))
      have hD2 := Lib.hid (fun (W : World) (A' : Option Addr) (c' : Nat) (hb : Below W2.heap.size W2 W) (hr : In W A' c' (dg g)) => r1_Div B1 d1 (dg Y) A' c' (dg g) W (QD.out.below hb) l2 hr hgl (by rw [V_dg]; omega))
      simp only [V_dg, Int.toNat_natCast] at hD1 hD2
      unfold ToldD at hD1 hD2
      rw [← hnq.1] at hD1
      rw [← hnq.2.1] at hD2
      clear hnq hnl hyl HQ HBB QN QD hg hgp hgl
      go_wp2_with fail
      refine hGc.out.mono ?_
      clear hGc
      rintro e W3 ⟨A3, c3, rfl, q1, q2⟩
      replace HF := Lib.hid (HF.out.below q2)
      have QG := Lib.hid q1
      have HS := Lib.hid q2
      clear q1 q2 hc0 hc1
      have hc0 := HF.out.cellN 2 rfl 0 rfl
      have hc1 := HF.out.cellN 2 rfl 1 rfl
      go_wp2_with fail
      refine (hD1.out W3 A3 c3 HS.out QG.out).mono ?_
      clear hD1
      rintro e W4 ⟨A4, c4, A5, c5, rfl, q1, q2, q3⟩
      replace HF := Lib.hid (HF.out.below q3)
      replace QG := Lib.hid (QG.out.below q3)
      have Q1 := Lib.hid q1
      replace HS := Lib.hid (HS.out.trans (q3.mono HS.out.size))
      clear q1 q2 q3 hc0 hc1
      go_wp2_with fail
      refine (hD2.out W4 A3 c3 HS.out QG.out).mono ?_
      clear hD2
      rintro e W5 ⟨A6, c6, A7, c7, rfl, q1, q2, q3⟩
      replace HF := Lib.hid (HF.out.below q3)
      replace Q1 := Lib.hid (Q1.out.below q3)
      have Q2 := Lib.hid q1
      clear q1 q2 q3 QG HS
      have hc0 := HF.out.cellN 2 rfl 0 rfl
      have hf0 := HF.out.frozenN 0 rfl 0
      have hf1 := HF.out.frozenN 0 rfl 1
      have hf2 := HF.out.frozenN 0 rfl 2
      have hd0 := HF.out.cellN 0 rfl 0 rfl
      have hd1 := HF.out.cellN 0 rfl 1 rfl
      have hd2 := HF.out.cellN 0 rfl 2 rfl
      have HE := Lib.hid (end_rat (q := q) HF.out (by simp) (by simp) (by omega) Q1.out Q2.out rfl)
      rw [HNQ.out.2.2] at HE
      go_wp2
      obtain ⟨f1, f2⟩ := HE.out
      exact post_own f2 rfl rfl rfl Tryz.underlying43 rfl (by kernel_rfl) f1
end Go.Proofs.YtidgpkccjcddgaaGreatDoor.F
/- The walks of the reference's layer 3, second part: Mul. -/
namespace Go.Proofs.YtidgpkccjcddgaaGreatDoor.F
open Go.RowKit Go.Shelf Go.Proofs.YtidgpkccjcddgaaGreatDoorW.PrintLast
set_option maxHeartbeats 1000000 in
set_option maxRecDepth 100000 in
theorem r3_Mul (s : Bool) (A : Option Addr) (c : Nat) (xs : List Int) (B : Option Addr) (d : Nat) (ys : List Int) (t : Bool) (E : Option Addr) (j : Nat) (us : List Int) (G : Option Addr) (l : Nat) (vs : List Int) (w : World) (h1 : In w A c xs) (m1 : xs.length ≤ 137438953472) (h2 : In w B d ys) (m2 : ys.length ≤ 137438953472) (h3 : In w E j us) (m3 : us.length ≤ 137438953472) (h4 : In w G l vs) (m4 : vs.length ≤ 137438953472) :
    Calls Tryz.prog 261 #[.agg #[.bool s, .slice A xs.length c, .slice B ys.length d], .agg #[.bool t, .slice E us.length j, .slice G vs.length l]] w fun e w' => ToldQ w (rv s xs ys * rv t us vs) e w' := by
  have hN1 := Lib.hid (fun (W : World) (hb : Below w.heap.size w W) => r3_Norm s A c xs B d ys W (h1.below hb) (by omega) (h2.below hb) (by omega))
  have hN2 := Lib.hid (fun (W : World) (hb : Below w.heap.size w W) => r3_Norm t E j us G l vs W (h3.below hb) (by omega) (h4.below hb) (by omega))
  have hl1 := rv_len s h1.lim h2.lim
  have hl2 := rv_len t h3.lim h4.lim
  generalize rv s xs ys = p at *
  generalize rv t us vs = q at *
  have hml := mulQ_len (p := p) (q := q) (n := 137438953473) (by omega) (by omega) (by omega) (by omega)
  have hM := Lib.hid (fun (W : World) (A1 : Option Addr) (c1 : Nat) (B1 : Option Addr) (d1 : Nat) (A2 : Option Addr) (c2 : Nat) (B2 : Option Addr) (d2 : Nat) (k1 : InQ W A1 c1 B1 d1 p) (k2 : InQ W A2 c2 B2 d2 q) => r2_Mul (decide (p.num < 0)) A1 c1 _ (decide (q.num < 0)) A2 c2 _ W k1.num (by omega) k2.num (by omega))
  have hG := Lib.hid (fun (W : World) (A1 : Option Addr) (c1 : Nat) (B1 : Option Addr) (d1 : Nat) (k1 : In W A1 c1 (dg (p.num * q.num).natAbs)) (k2 : In W B1 d1 (dg (p.den * q.den))) => r3_Norm (decide (p.num * q.num < 0)) A1 c1 _ B1 d1 _ W k1 (by omega) k2 (by omega))
  rw [rv_of, ← rat_mul] at hG
  simp only [iv_can] at hM
  generalize p * q = r at hG ⊢
  have hD := Lib.hid (fun (W : World) (A1 : Option Addr) (c1 : Nat) (B1 : Option Addr) (d1 : Nat) (A2 : Option Addr) (c2 : Nat) (B2 : Option Addr) (d2 : Nat) (k1 : InQ W A1 c1 B1 d1 p) (k2 : InQ W A2 c2 B2 d2 q) => (r1_Mul B1 d1 _ B2 d2 _ W k1.den (by omega) k2.den (by omega)).mono fun e w' hh => Told.nat (n := p.den * q.den) (by rw [V_dg, V_dg] at hh; rw [Int.natCast_mul]; exact hh))
  clear h1 h2 h3 h4 hl1 hl2 hml
  have HF := Lib.hid ((((Fr.refl w).box [.bool s, .slice A xs.length c, .slice B ys.length d] 43).box [.bool t, .slice E us.length j, .slice G vs.length l] 43).box [.bool false, .slice none 0 0, .slice none 0 0] 43)
  have hsz : (w.alloc (.cells #[.bool s, .slice A xs.length c, .slice B ys.length d] 43)).heap.size = w.heap.size + 1 := by simp
  have hsz2 : ((w.alloc (.cells #[.bool s, .slice A xs.length c, .slice B ys.length d] 43)).alloc (.cells #[.bool t, .slice E us.length j, .slice G vs.length l] 43)).heap.size = w.heap.size + 2 := by simp
  rw [show [Value.bool s, Value.slice A xs.length c, Value.slice B ys.length d].toArray = #[Value.bool s, Value.slice A xs.length c, Value.slice B ys.length d] from rfl, hsz, show [Value.bool t, Value.slice E us.length j, Value.slice G vs.length l].toArray = #[Value.bool t, Value.slice E us.length j, Value.slice G vs.length l] from rfl, hsz2] at HF
  clear hsz hsz2
  go_enter Tryz.func261, Tryz.ntmps261
  go_wp2_with fail
  refine (hN1.out _ HF.out.bel).mono ?_
  rintro e W1 ⟨A1, c1, B1, d1, rfl, q1, q2, q3⟩
  replace HF := Lib.hid (HF.out.below q3)
  have Q1 := Lib.hid (InQ.mk q1 q2)
  clear q1 q2 q3
  have hf0 := HF.out.frozenN 2 rfl 0
  have hf1 := HF.out.frozenN 2 rfl 1
  have hf2 := HF.out.frozenN 2 rfl 2
  have hd0 := HF.out.cellN 2 rfl 0 rfl
  have hd1 := HF.out.cellN 2 rfl 1 rfl
  have hd2 := HF.out.cellN 2 rfl 2 rfl
  have ec0 := HF.out.cellN 1 rfl 0 rfl
  have ec1 := HF.out.cellN 1 rfl 1 rfl
  have ec2 := HF.out.cellN 1 rfl 2 rfl
  replace Q1 := Lib.hid (Q1.out.put3 (HF.out.ownN 2 rfl) (by simp) (a := .bool (decide (p.num < 0))) (by simp) (b := .slice A1 (dg p.num.natAbs).length c1) (by simp) (.slice B1 (dg p.den).length d1))
  replace HF := Lib.hid (HF.out.put3 2 rfl (by omega) (by simp) (.bool (decide (p.num < 0))) (.slice A1 (dg p.num.natAbs).length c1) (.slice B1 (dg p.den).length d1))
  go_wp2_with fail
  clear hf0 hf1 hf2 hd0 hd1 hd2 ec0 ec1 ec2
  generalize World.setCell _ _ _ = W0 at HF Q1 ⊢
  refine (hN2.out W0 HF.out.bel).mono ?_
  rintro e W2 ⟨A2, c2, B2, d2, rfl, q1, q2, q3⟩
  replace HF := Lib.hid (HF.out.below q3)
  replace Q1 := Lib.hid (Q1.out.below q3)
  have Q2 := Lib.hid (InQ.mk q1 q2)
  clear q1 q2 q3
  have hf0 := HF.out.frozenN 1 rfl 0
  have hf1 := HF.out.frozenN 1 rfl 1
  have hf2 := HF.out.frozenN 1 rfl 2
  have hd0 := HF.out.cellN 1 rfl 0 rfl
  have hd1 := HF.out.cellN 1 rfl 1 rfl
  have hd2 := HF.out.cellN 1 rfl 2 rfl
  replace Q1 := Lib.hid (Q1.out.put3 (HF.out.ownN 1 rfl) (by simp) (a := .bool (decide (q.num < 0))) (by simp) (b := .slice A2 (dg q.num.natAbs).length c2) (by simp) (.slice B2 (dg q.den).length d2))
  replace Q2 := Lib.hid (Q2.out.put3 (HF.out.ownN 1 rfl) (by simp) (a := .bool (decide (q.num < 0))) (by simp) (b := .slice A2 (dg q.num.natAbs).length c2) (by simp) (.slice B2 (dg q.den).length d2))
  replace HF := Lib.hid (HF.out.put3 1 rfl (by omega) (by simp) (.bool (decide (q.num < 0))) (.slice A2 (dg q.num.natAbs).length c2) (.slice B2 (dg q.den).length d2))
  go_wp2_with fail
  clear hf0 hf1 hf2 hd0 hd1 hd2
  generalize World.setCell _ _ _ = W at HF Q1 Q2 ⊢
  replace Q1 := Lib.hid (Q1.out.below (Below.drew (Below.refl _ _)))
  replace Q2 := Lib.hid (Q2.out.below (Below.drew (Below.refl _ _)))
  have HF_ := Lib.hid HF.out.drew
  clear HF
  have HF := HF_
  clear HF_
  refine start_ (n := 13) (S := fun w' => w'.cell? ⟨w.heap.size, 0, none⟩ = some (.bool (decide (p.num < 0))) ∧ w'.cell? ⟨w.heap.size, 1, none⟩ = some (.slice A1 (dg p.num.natAbs).length c1) ∧ w'.cell? ⟨w.heap.size, 2, none⟩ = some (.slice B1 (dg p.den).length d1) ∧ w'.cell? ⟨w.heap.size + 1, 0, none⟩ = some (.bool (decide (q.num < 0))) ∧ w'.cell? ⟨w.heap.size + 1, 1, none⟩ = some (.slice A2 (dg q.num.natAbs).length c2) ∧ w'.cell? ⟨w.heap.size + 1, 2, none⟩ = some (.slice B2 (dg q.den).length d2)) (ds := []) #[false, false, false, false, false, false, false, false, false, false, false, false, false] (by kernel_rfl) rfl rfl ⟨HF.out.cellN 2 rfl 0 rfl, HF.out.cellN 2 rfl 1 rfl, HF.out.cellN 2 rfl 2 rfl, HF.out.cellN 1 rfl 0 rfl, HF.out.cellN 1 rfl 1 rfl, HF.out.cellN 1 rfl 2 rfl⟩ (fun hHeld => ?_)
  generalize World.drew _ = W at *
  refine pu_ (v := ?_) (a' := ?_) 0 (some 9) rfl rfl ?_ ?_ ?_
  rotate_left; · intro w'; go_simp; with_reducible rfl
  rotate_left; · simp only [Act.put, s1, s2, s3]; rfl
  refine pu_ (v := ?_) (a' := ?_) 2 (some 11) rfl rfl ?_ ?_ ?_
  rotate_left; · intro w'; go_simp; with_reducible rfl
  rotate_left; · simp only [Act.put, s1, s2, s3]; rfl
  refine pu_ (v := ?_) (a' := ?_) 5 (some 14) rfl rfl ?_ ?_ ?_
  rotate_left; · intro w'; go_simp; with_reducible rfl
  rotate_left; · simp only [Act.put, s1, s2, s3]; rfl
  refine pu_ (v := ?_) (a' := ?_) 7 (some 16) rfl rfl ?_ ?_ ?_
  rotate_left; · intro w'; go_simp; with_reducible rfl
  rotate_left; · simp only [Act.put, s1, s2, s3]; rfl
  refine tk_ (v := ?_) (a' := ?_) 1 (some 10) rfl rfl ?_ hHeld ?_ ?_
  rotate_left
  · rintro w' ⟨s0, s1, s2, s3, s4, s5⟩; go_simp; with_reducible rfl
  rotate_left; · simp only [Act.put, s1, s2, s3]; rfl
  refine tk_ (v := ?_) (a' := ?_) 3 (some 12) rfl rfl ?_ hHeld ?_ ?_
  rotate_left
  · rintro w' ⟨s0, s1, s2, s3, s4, s5⟩; go_simp; with_reducible rfl
  rotate_left; · simp only [Act.put, s1, s2, s3]; rfl
  refine tk_ (v := ?_) (a' := ?_) 6 (some 15) rfl rfl ?_ hHeld ?_ ?_
  rotate_left
  · rintro w' ⟨s0, s1, s2, s3, s4, s5⟩; go_simp; with_reducible rfl
  rotate_left; · simp only [Act.put, s1, s2, s3]; rfl
  refine tk_ (v := ?_) (a' := ?_) 8 (some 17) rfl rfl ?_ hHeld ?_ ?_
  rotate_left
  · rintro w' ⟨s0, s1, s2, s3, s4, s5⟩; go_simp; with_reducible rfl
  rotate_left; · simp only [Act.put, s1, s2, s3]; rfl
  refine on_ 4 (N := (some 13)) rfl rfl (fun K hK => ?_)
  refine goes_ Tryz.func250 (by kernel_rfl) rfl #[.agg #[.bool (decide (p.num < 0)), .slice A1 (dg p.num.natAbs).length c1], .agg #[.bool (decide (q.num < 0)), .slice A2 (dg q.num.natAbs).length c2]] (by rfl) rfl rfl (by (try simp only [List.map_toArray, List.map_cons, List.map_nil]); first | done | rfl) ?_
  refine (hM.out W A1 c1 B1 d1 A2 c2 B2 d2 Q1.out Q2.out).mono ?_
  rintro e W1 ⟨A3, c3, rfl, q1, q2, q3⟩
  refine ⟨_, rfl, ?_⟩
  replace HF := Lib.hid (HF.out.below q3)
  replace Q1 := Lib.hid (Q1.out.below q3)
  replace Q2 := Lib.hid (Q2.out.below q3)
  have Q3 := Lib.hid (In.dg q2 q1)
  clear q1 q2 q3
  refine hK.out _ _ ⟨HF.out.cellN 2 rfl 0 rfl, HF.out.cellN 2 rfl 1 rfl, HF.out.cellN 2 rfl 2 rfl, HF.out.cellN 1 rfl 0 rfl, HF.out.cellN 1 rfl 1 rfl, HF.out.cellN 1 rfl 2 rfl⟩ (fun hHeld => ?_)
  clear hK K
  refine norm_ (a' := ?_) ?_ ?_
  rotate_left
  · show Act.put _ (some 13) _ = _
    simp only [Act.put, s1, s2, s3]; rfl
  refine on_ 9 (N := (some 18)) rfl rfl (fun K hK => ?_)
  refine goes_ Tryz.func192 (by kernel_rfl) rfl #[.slice B1 (dg p.den).length d1, .slice B2 (dg q.den).length d2] (by rfl) rfl rfl (by (try simp only [List.map_toArray, List.map_cons, List.map_nil]); first | done | rfl) ?_
  refine (hD.out W1 A1 c1 B1 d1 A2 c2 B2 d2 Q1.out Q2.out).mono ?_
  rintro e W2 ⟨A4, c4, rfl, q1, q3⟩
  refine ⟨_, rfl, ?_⟩
  replace HF := Lib.hid (HF.out.below q3)
  replace Q3 := Lib.hid (Q3.out.below q3)
  have Q4 := Lib.hid q1
  clear q1 q3 Q1 Q2
  refine hK.out _ _ ⟨HF.out.cellN 2 rfl 0 rfl, HF.out.cellN 2 rfl 1 rfl, HF.out.cellN 2 rfl 2 rfl, HF.out.cellN 1 rfl 0 rfl, HF.out.cellN 1 rfl 1 rfl, HF.out.cellN 1 rfl 2 rfl⟩ (fun hHeld => ?_)
  clear hK K
  refine norm_ (a' := ?_) ?_ ?_
  rotate_left
  · show Act.put _ (some 18) _ = _
    simp only [Act.put, s1, s2, s3]; rfl
  refine pu_ (v := ?_) (a' := ?_) 10 (some 19) rfl rfl ?_ ?_ ?_
  rotate_left; · intro w'; go_simp; with_reducible rfl
  rotate_left; · simp only [Act.put, s1, s2, s3]; rfl
  refine on_ 11 (N := (some 20)) rfl rfl (fun K hK => ?_)
  refine goes_ Tryz.func91 (by kernel_rfl) rfl #[.agg #[.bool (decide (p.num * q.num < 0)), .slice A3 (dg (p.num * q.num).natAbs).length c3, .slice A4 (dg (p.den * q.den)).length c4]] (by rfl) rfl rfl (by (try simp only [List.map_toArray, List.map_cons, List.map_nil]); first | done | rfl) ?_
  refine (hG.out W2 A3 c3 A4 c4 Q3.out Q4.out).mono ?_
  rintro e W3 ⟨A5, c5, A6, c6, rfl, q1, q2, q3⟩
  refine ⟨_, rfl, ?_⟩
  replace HF := Lib.hid (HF.out.below q3)
  replace Q3 := Lib.hid q1
  replace Q4 := Lib.hid q2
  clear q1 q2 q3
  refine hK.out _ _ ⟨HF.out.cellN 2 rfl 0 rfl, HF.out.cellN 2 rfl 1 rfl, HF.out.cellN 2 rfl 2 rfl, HF.out.cellN 1 rfl 0 rfl, HF.out.cellN 1 rfl 1 rfl, HF.out.cellN 1 rfl 2 rfl⟩ (fun hHeld => ?_)
  clear hK K
  refine norm_ (a' := ?_) ?_ ?_
  rotate_left
  · show Act.put _ (some 20) _ = _
    simp only [Act.put, s1, s2, s3]; rfl
  refine on_ 12 (N := none) rfl rfl (fun K hK => ?_)
  have hf0 := HF.out.frozenN 0 rfl 0
  have hf1 := HF.out.frozenN 0 rfl 1
  have hf2 := HF.out.frozenN 0 rfl 2
  have hd0 := HF.out.cellN 0 rfl 0 rfl
  have hd1 := HF.out.cellN 0 rfl 1 rfl
  have hd2 := HF.out.cellN 0 rfl 2 rfl
  refine skip_ (w1 := ?_) (by rfl) rfl ?_ ?_
  rotate_left
  · go_simp
    rfl
  have HE := Lib.hid (end_rat HF.out (by simp) (by simp) (by omega) Q3.out Q4.out rfl)
  replace HF := Lib.hid (HF.out.put3 0 rfl (by omega) (by simp) (.bool (decide (r.num < 0))) (.slice A5 (dg r.num.natAbs).length c5) (.slice A6 (dg r.den).length c6))
  refine hK.out _ _ ⟨HF.out.cellN 2 rfl 0 rfl, HF.out.cellN 2 rfl 1 rfl, HF.out.cellN 2 rfl 2 rfl, HF.out.cellN 1 rfl 0 rfl, HF.out.cellN 1 rfl 1 rfl, HF.out.cellN 1 rfl 2 rfl⟩ (fun hHeld => ?_)
  clear hK K
  refine done_ (by kernel_rfl) ?_
  generalize decide (r.num < 0) = b at HE ⊢
  go_wp2
  obtain ⟨f1, f2⟩ := HE.out
  exact post_own f2 rfl rfl rfl Tryz.underlying43 rfl (by kernel_rfl) f1
end Go.Proofs.YtidgpkccjcddgaaGreatDoor.F
/- The walks of the reference's layer 3, third part: positive, Add. -/
namespace Go.Proofs.YtidgpkccjcddgaaGreatDoor.F
open Go.RowKit Go.Shelf Go.Proofs.YtidgpkccjcddgaaGreatDoorW.PrintLast
set_option maxHeartbeats 1000000 in
set_option maxRecDepth 100000 in
theorem r3_positive (A : Option Addr) (n c : Nat) (w : World) :
    Calls Tryz.prog 251 #[.slice A n c] w fun e w' => e = .returned (.agg #[.bool false, .slice A n c]) ∧ Below w.heap.size w w' := by
  have HF := Lib.hid ((Fr.refl w).box [.bool false, .slice none 0 0] 41)
  have HG := Lib.hid ((Fr.refl w).box [.bool false, .slice A n c] 41)
  have hf0 := HF.out.frozenN 0 rfl 0
  have hf1 := HF.out.frozenN 0 rfl 1
  have hd0 := HF.out.cellN 0 rfl 0 rfl
  have hd1 := HF.out.cellN 0 rfl 1 rfl
  go_enter Tryz.func251, Tryz.ntmps251
  go_wp2
  first
    | exact post_own (HG.out.ownN 0 rfl) rfl rfl rfl Tryz.underlying41 rfl (by kernel_rfl) ⟨rfl, HG.out.bel⟩
    | exact post_own (((HF.out.ownN 0 rfl).set 0 _).set 1 _) rfl rfl rfl Tryz.underlying41 rfl (by kernel_rfl) ⟨rfl, (HF.out.bel.setCell (Nat.le_refl _) _).setCell (Nat.le_refl _) _⟩
set_option maxHeartbeats 1000000 in
set_option maxRecDepth 100000 in
theorem r3_Add (s : Bool) (A : Option Addr) (c : Nat) (xs : List Int) (B : Option Addr) (d : Nat) (ys : List Int) (t : Bool) (E : Option Addr) (j : Nat) (us : List Int) (G : Option Addr) (l : Nat) (vs : List Int) (w : World) (h1 : In w A c xs) (m1 : xs.length ≤ 137438953472) (h2 : In w B d ys) (m2 : ys.length ≤ 137438953472) (h3 : In w E j us) (m3 : us.length ≤ 137438953472) (h4 : In w G l vs) (m4 : vs.length ≤ 137438953472) :
    Calls Tryz.prog 196 #[.agg #[.bool s, .slice A xs.length c, .slice B ys.length d], .agg #[.bool t, .slice E us.length j, .slice G vs.length l]] w fun e w' => ToldQ w (rv s xs ys + rv t us vs) e w' := by
  have hN1 := Lib.hid (fun (W : World) (hb : Below w.heap.size w W) => r3_Norm s A c xs B d ys W (h1.below hb) (by omega) (h2.below hb) (by omega))
  have hN2 := Lib.hid (fun (W : World) (hb : Below w.heap.size w W) => r3_Norm t E j us G l vs W (h3.below hb) (by omega) (h4.below hb) (by omega))
  have hl1 := rv_len s h1.lim h2.lim
  have hl2 := rv_len t h3.lim h4.lim
  generalize rv s xs ys = p at *
  generalize rv t us vs = q at *
  have hml := mulQ_len (p := p) (q := q) (n := 137438953473) (by omega) (by omega) (by omega) (by omega)
  have hM1 := Lib.hid (fun (W : World) (A1 : Option Addr) (c1 : Nat) (B1 : Option Addr) (d1 : Nat) (A2 : Option Addr) (c2 : Nat) (B2 : Option Addr) (d2 : Nat) (k1 : InQ W A1 c1 B1 d1 p) (k2 : InQ W A2 c2 B2 d2 q) => r2_Mul (decide (p.num < 0)) A1 c1 _ false B2 d2 _ W k1.num (by omega) k2.den (by omega))
  have hM2 := Lib.hid (fun (W : World) (A1 : Option Addr) (c1 : Nat) (B1 : Option Addr) (d1 : Nat) (A2 : Option Addr) (c2 : Nat) (B2 : Option Addr) (d2 : Nat) (k1 : InQ W A1 c1 B1 d1 p) (k2 : InQ W A2 c2 B2 d2 q) => r2_Mul (decide (q.num < 0)) A2 c2 _ false B1 d1 _ W k2.num (by omega) k1.den (by omega))
  have hA := Lib.hid (fun (W : World) (A1 : Option Addr) (c1 : Nat) (A2 : Option Addr) (c2 : Nat) (k1 : In W A1 c1 (dg (p.num * q.den).natAbs)) (k2 : In W A2 c2 (dg (q.num * p.den).natAbs)) => r2_Add (decide (p.num * q.den < 0)) A1 c1 _ (decide (q.num * p.den < 0)) A2 c2 _ W k1 (by omega) k2 (by omega))
  have hG := Lib.hid (fun (W : World) (A1 : Option Addr) (c1 : Nat) (B1 : Option Addr) (d1 : Nat) (k1 : In W A1 c1 (dg (p.num * q.den + q.num * p.den).natAbs)) (k2 : In W B1 d1 (dg (p.den * q.den))) => r3_Norm (decide (p.num * q.den + q.num * p.den < 0)) A1 c1 _ B1 d1 _ W k1 (by omega) k2 (by omega))
  rw [rv_of, ← rat_add] at hG
  simp only [iv_can] at hM1 hM2 hA
  simp only [V_dg, iv, Bool.false_eq_true, if_false] at hM1 hM2
  generalize p + q = r at hG ⊢
  have hD := Lib.hid (fun (W : World) (A1 : Option Addr) (c1 : Nat) (B1 : Option Addr) (d1 : Nat) (A2 : Option Addr) (c2 : Nat) (B2 : Option Addr) (d2 : Nat) (k1 : InQ W A1 c1 B1 d1 p) (k2 : InQ W A2 c2 B2 d2 q) => (r1_Mul B1 d1 _ B2 d2 _ W k1.den (by omega) k2.den (by omega)).mono fun e w' hh => Told.nat (n := p.den * q.den) (by rw [V_dg, V_dg] at hh; rw [Int.natCast_mul]; exact hh))
  clear h1 h2 h3 h4 hl1 hl2 hml
  have HF := Lib.hid ((((Fr.refl w).box [.bool s, .slice A xs.length c, .slice B ys.length d] 43).box [.bool t, .slice E us.length j, .slice G vs.length l] 43).box [.bool false, .slice none 0 0, .slice none 0 0] 43)
  have hsz : (w.alloc (.cells #[.bool s, .slice A xs.length c, .slice B ys.length d] 43)).heap.size = w.heap.size + 1 := by simp
  have hsz2 : ((w.alloc (.cells #[.bool s, .slice A xs.length c, .slice B ys.length d] 43)).alloc (.cells #[.bool t, .slice E us.length j, .slice G vs.length l] 43)).heap.size = w.heap.size + 2 := by simp
  rw [show [Value.bool s, Value.slice A xs.length c, Value.slice B ys.length d].toArray = #[Value.bool s, Value.slice A xs.length c, Value.slice B ys.length d] from rfl, hsz, show [Value.bool t, Value.slice E us.length j, Value.slice G vs.length l].toArray = #[Value.bool t, Value.slice E us.length j, Value.slice G vs.length l] from rfl, hsz2] at HF
  clear hsz hsz2
  go_enter Tryz.func196, Tryz.ntmps196
  go_wp2_with fail
  refine (hN1.out _ HF.out.bel).mono ?_
  rintro e W1 ⟨A1, c1, B1, d1, rfl, q1, q2, q3⟩
  replace HF := Lib.hid (HF.out.below q3)
  have Q1 := Lib.hid (InQ.mk q1 q2)
  clear q1 q2 q3
  have hf0 := HF.out.frozenN 2 rfl 0
  have hf1 := HF.out.frozenN 2 rfl 1
  have hf2 := HF.out.frozenN 2 rfl 2
  have hd0 := HF.out.cellN 2 rfl 0 rfl
  have hd1 := HF.out.cellN 2 rfl 1 rfl
  have hd2 := HF.out.cellN 2 rfl 2 rfl
  have ec0 := HF.out.cellN 1 rfl 0 rfl
  have ec1 := HF.out.cellN 1 rfl 1 rfl
  have ec2 := HF.out.cellN 1 rfl 2 rfl
  replace Q1 := Lib.hid (Q1.out.put3 (HF.out.ownN 2 rfl) (by simp) (a := .bool (decide (p.num < 0))) (by simp) (b := .slice A1 (dg p.num.natAbs).length c1) (by simp) (.slice B1 (dg p.den).length d1))
  replace HF := Lib.hid (HF.out.put3 2 rfl (by omega) (by simp) (.bool (decide (p.num < 0))) (.slice A1 (dg p.num.natAbs).length c1) (.slice B1 (dg p.den).length d1))
  go_wp2_with fail
  clear hf0 hf1 hf2 hd0 hd1 hd2 ec0 ec1 ec2
  generalize World.setCell _ _ _ = W0 at HF Q1 ⊢
  refine (hN2.out W0 HF.out.bel).mono ?_
  rintro e W2 ⟨A2, c2, B2, d2, rfl, q1, q2, q3⟩
  replace HF := Lib.hid (HF.out.below q3)
  replace Q1 := Lib.hid (Q1.out.below q3)
  have Q2 := Lib.hid (InQ.mk q1 q2)
  clear q1 q2 q3
  have hf0 := HF.out.frozenN 1 rfl 0
  have hf1 := HF.out.frozenN 1 rfl 1
  have hf2 := HF.out.frozenN 1 rfl 2
  have hd0 := HF.out.cellN 1 rfl 0 rfl
  have hd1 := HF.out.cellN 1 rfl 1 rfl
  have hd2 := HF.out.cellN 1 rfl 2 rfl
  replace Q1 := Lib.hid (Q1.out.put3 (HF.out.ownN 1 rfl) (by simp) (a := .bool (decide (q.num < 0))) (by simp) (b := .slice A2 (dg q.num.natAbs).length c2) (by simp) (.slice B2 (dg q.den).length d2))
  replace Q2 := Lib.hid (Q2.out.put3 (HF.out.ownN 1 rfl) (by simp) (a := .bool (decide (q.num < 0))) (by simp) (b := .slice A2 (dg q.num.natAbs).length c2) (by simp) (.slice B2 (dg q.den).length d2))
  replace HF := Lib.hid (HF.out.put3 1 rfl (by omega) (by simp) (.bool (decide (q.num < 0))) (.slice A2 (dg q.num.natAbs).length c2) (.slice B2 (dg q.den).length d2))
  go_wp2_with fail
  clear hf0 hf1 hf2 hd0 hd1 hd2
  generalize World.setCell _ _ _ = W at HF Q1 Q2 ⊢
  replace Q1 := Lib.hid (Q1.out.below (Below.drew (Below.refl _ _)))
  replace Q2 := Lib.hid (Q2.out.below (Below.drew (Below.refl _ _)))
  have HF_ := Lib.hid HF.out.drew
  clear HF
  have HF := HF_
  clear HF_
  refine start_ (n := 15) (S := fun w' => w'.cell? ⟨w.heap.size, 0, none⟩ = some (.bool (decide (p.num < 0))) ∧ w'.cell? ⟨w.heap.size, 1, none⟩ = some (.slice A1 (dg p.num.natAbs).length c1) ∧ w'.cell? ⟨w.heap.size, 2, none⟩ = some (.slice B1 (dg p.den).length d1) ∧ w'.cell? ⟨w.heap.size + 1, 0, none⟩ = some (.bool (decide (q.num < 0))) ∧ w'.cell? ⟨w.heap.size + 1, 1, none⟩ = some (.slice A2 (dg q.num.natAbs).length c2) ∧ w'.cell? ⟨w.heap.size + 1, 2, none⟩ = some (.slice B2 (dg q.den).length d2)) (ds := []) #[false, false, false, false, false, false, false, false, false, false, false, false, false, false, false] (by kernel_rfl) rfl rfl ⟨HF.out.cellN 2 rfl 0 rfl, HF.out.cellN 2 rfl 1 rfl, HF.out.cellN 2 rfl 2 rfl, HF.out.cellN 1 rfl 0 rfl, HF.out.cellN 1 rfl 1 rfl, HF.out.cellN 1 rfl 2 rfl⟩ (fun hHeld => ?_)
  generalize World.drew _ = W at *
  refine pure_ (i := 0) (N := (some 10)) (v := ?_) (a' := ?_) #[true, false, false, false, false, false, false, false, false, false, false, false, false, false, false] rfl rfl (by kernel_rfl) (fun _ _ _ h => h) (Or.inl ⟨by rfl, ?_⟩) ?_ ?_
  rotate_left; · intro w'; go_simp; with_reducible rfl
  rotate_left; · simp only [Act.put, s1, s2, s3]; rfl
  refine pure_ (i := 2) (N := (some 12)) (v := ?_) (a' := ?_) #[true, false, true, false, false, false, false, false, false, false, false, false, false, false, false] rfl rfl (by kernel_rfl) (fun _ _ _ h => h) (Or.inl ⟨by rfl, ?_⟩) ?_ ?_
  rotate_left; · intro w'; go_simp; with_reducible rfl
  rotate_left; · simp only [Act.put, s1, s2, s3]; rfl
  refine pure_ (i := 6) (N := (some 16)) (v := ?_) (a' := ?_) #[true, false, true, false, false, false, true, false, false, false, false, false, false, false, false] rfl rfl (by kernel_rfl) (fun _ _ _ h => h) (Or.inl ⟨by rfl, ?_⟩) ?_ ?_
  rotate_left; · intro w'; go_simp; with_reducible rfl
  rotate_left; · simp only [Act.put, s1, s2, s3]; rfl
  refine pure_ (i := 8) (N := (some 18)) (v := ?_) (a' := ?_) #[true, false, true, false, false, false, true, false, true, false, false, false, false, false, false] rfl rfl (by kernel_rfl) (fun _ _ _ h => h) (Or.inl ⟨by rfl, ?_⟩) ?_ ?_
  rotate_left; · intro w'; go_simp; with_reducible rfl
  rotate_left; · simp only [Act.put, s1, s2, s3]; rfl
  refine take_ (i := 1) (N := (some 11)) (v := ?_) (a' := ?_) #[true, true, true, false, false, false, true, false, true, false, false, false, false, false, false] rfl rfl (by kernel_rfl) (fun _ _ _ h => h) (Or.inl ⟨by rfl, ?_⟩) hHeld ?_ ?_
  rotate_left
  · rintro w' ⟨s0, s1, s2, s3, s4, s5⟩; go_simp; with_reducible rfl
  rotate_left; · simp only [Act.put, s1, s2, s3]; rfl
  refine take_ (i := 3) (N := (some 13)) (v := ?_) (a' := ?_) #[true, true, true, true, false, false, true, false, true, false, false, false, false, false, false] rfl rfl (by kernel_rfl) (fun _ _ _ h => h) (Or.inl ⟨by rfl, ?_⟩) hHeld ?_ ?_
  rotate_left
  · rintro w' ⟨s0, s1, s2, s3, s4, s5⟩; go_simp; with_reducible rfl
  rotate_left; · simp only [Act.put, s1, s2, s3]; rfl
  refine take_ (i := 7) (N := (some 17)) (v := ?_) (a' := ?_) #[true, true, true, true, false, false, true, true, true, false, false, false, false, false, false] rfl rfl (by kernel_rfl) (fun _ _ _ h => h) (Or.inl ⟨by rfl, ?_⟩) hHeld ?_ ?_
  rotate_left
  · rintro w' ⟨s0, s1, s2, s3, s4, s5⟩; go_simp; with_reducible rfl
  rotate_left; · simp only [Act.put, s1, s2, s3]; rfl
  refine take_ (i := 9) (N := (some 19)) (v := ?_) (a' := ?_) #[true, true, true, true, false, false, true, true, true, true, false, false, false, false, false] rfl rfl (by kernel_rfl) (fun _ _ _ h => h) (Or.inl ⟨by rfl, ?_⟩) hHeld ?_ ?_
  rotate_left
  · rintro w' ⟨s0, s1, s2, s3, s4, s5⟩; go_simp; with_reducible rfl
  rotate_left; · simp only [Act.put, s1, s2, s3]; rfl
  refine join_ (σ := Nat × (Option Addr × Nat) × (Option Addr × Nat) × Option Addr × Nat) 0 #[true, true, true, true, true, true, true, true, true, true, true, true, true, true, true] (fun ⟨g, ⟨A3, c3⟩, ⟨A4, c4⟩, A5, c5⟩ => [(14, .agg #[.bool false, .slice B2 (dg q.den).length d2]), (20, .agg #[.bool false, .slice B1 (dg p.den).length d1]), (15, .agg #[.bool (decide (p.num * q.den < 0)), .slice A3 (dg (p.num * q.den).natAbs).length c3]), (21, .agg #[.bool (decide (q.num * p.den < 0)), .slice A4 (dg (q.num * p.den).natAbs).length c4]), (22, .agg #[.bool (decide (p.num * q.den + q.num * p.den < 0)), .slice A5 (dg (p.num * q.den + q.num * p.den).natAbs).length c5]), (5, .pointer (some ⟨g, 0, none⟩))]) (fun ⟨g, ⟨A3, c3⟩, ⟨A4, c4⟩, A5, c5⟩ W' => w.heap.size + 3 ≤ g ∧ Fr w W' [(w.heap.size + 2, [.bool false, .slice none 0 0, .slice none 0 0]), (w.heap.size + 1, [.bool (decide (q.num < 0)), .slice A2 (dg q.num.natAbs).length c2, .slice B2 (dg q.den).length d2]), (w.heap.size, [.bool (decide (p.num < 0)), .slice A1 (dg p.num.natAbs).length c1, .slice B1 (dg p.den).length d1]), (g, [.bool (decide (p.num * q.den + q.num * p.den < 0)), .slice A5 (dg (p.num * q.den + q.num * p.den).natAbs).length c5])] ∧ InQ W' A1 c1 B1 d1 p ∧ InQ W' A2 c2 B2 d2 q ∧ In W' A5 c5 (dg (p.num * q.den + q.num * p.den).natAbs)) ?hc0 ?hm0
  case hm0 =>
    intro hcont
    refine two_ (i := 4) (j := 13) (Ni := (some 14)) (Nj := (some 5)) #[true, true, true, true, true, false, true, true, true, true, false, false, false, false, false] #[true, true, true, true, false, false, true, true, true, true, false, false, false, true, false] rfl rfl rfl rfl (by kernel_rfl) (by decide) (by decide) (fun K hK => ?_) (fun K hK => ?_)
    · refine goes_ Tryz.func251 (by kernel_rfl) rfl #[.slice B2 (dg q.den).length d2] (by rfl) rfl rfl (by (try simp only [List.map_toArray, List.map_cons, List.map_nil]); first | done | rfl) ?_
      refine (r3_positive B2 (dg q.den).length d2 W).mono ?_
      rintro e W1 ⟨rfl, q3⟩
      refine ⟨_, rfl, ?_⟩
      replace HF := Lib.hid (HF.out.below q3)
      replace Q1 := Lib.hid (Q1.out.below q3)
      replace Q2 := Lib.hid (Q2.out.below q3)
      try replace Q3 := Lib.hid (Q3.out.below q3)
      clear q3
      refine hK.out _ _ ⟨HF.out.cellN 2 rfl 0 rfl, HF.out.cellN 2 rfl 1 rfl, HF.out.cellN 2 rfl 2 rfl, HF.out.cellN 1 rfl 0 rfl, HF.out.cellN 1 rfl 1 rfl, HF.out.cellN 1 rfl 2 rfl⟩ (fun hHeld => ?_)
      clear hK K
      refine norm_ (a' := ?_) ?_ ?_
      rotate_left
      · show Act.put _ (some 14) _ = _
        simp only [Act.put, s1, s2, s3]; rfl
      refine two_ (i := 5) (j := 13) (Ni := (some 15)) (Nj := (some 5)) #[true, true, true, true, true, true, true, true, true, true, false, false, false, false, false] #[true, true, true, true, true, false, true, true, true, true, false, false, false, true, false] rfl rfl rfl rfl (by kernel_rfl) (by decide) (by decide) (fun K hK => ?_) (fun K hK => ?_)
      · refine goes_ Tryz.func250 (by kernel_rfl) rfl #[.agg #[.bool (decide (p.num < 0)), .slice A1 (dg p.num.natAbs).length c1], .agg #[.bool false, .slice B2 (dg q.den).length d2]] (by rfl) rfl rfl (by (try simp only [List.map_toArray, List.map_cons, List.map_nil]); first | done | rfl) ?_
        refine (hM1.out W1 A1 c1 B1 d1 A2 c2 B2 d2 Q1.out Q2.out).mono ?_
        rintro e W2 ⟨A3, c3, rfl, q1, q2, q3⟩
        refine ⟨_, rfl, ?_⟩
        replace HF := Lib.hid (HF.out.below q3)
        replace Q1 := Lib.hid (Q1.out.below q3)
        replace Q2 := Lib.hid (Q2.out.below q3)
        have Q3 := Lib.hid (In.dg q2 q1)
        clear q1 q2 q3
        refine hK.out _ _ ⟨HF.out.cellN 2 rfl 0 rfl, HF.out.cellN 2 rfl 1 rfl, HF.out.cellN 2 rfl 2 rfl, HF.out.cellN 1 rfl 0 rfl, HF.out.cellN 1 rfl 1 rfl, HF.out.cellN 1 rfl 2 rfl⟩ (fun hHeld => ?_)
        clear hK K
        refine norm_ (a' := ?_) ?_ ?_
        rotate_left
        · show Act.put _ (some 15) _ = _
          simp only [Act.put, s1, s2, s3]; rfl
        refine two_ (i := 10) (j := 13) (Ni := (some 20)) (Nj := (some 5)) #[true, true, true, true, true, true, true, true, true, true, true, false, false, false, false] #[true, true, true, true, true, true, true, true, true, true, false, false, false, true, false] rfl rfl rfl rfl (by kernel_rfl) (by decide) (by decide) (fun K hK => ?_) (fun K hK => ?_)
        · refine goes_ Tryz.func251 (by kernel_rfl) rfl #[.slice B1 (dg p.den).length d1] (by rfl) rfl rfl (by (try simp only [List.map_toArray, List.map_cons, List.map_nil]); first | done | rfl) ?_
          refine (r3_positive B1 (dg p.den).length d1 W2).mono ?_
          rintro e W3 ⟨rfl, q3⟩
          refine ⟨_, rfl, ?_⟩
          replace HF := Lib.hid (HF.out.below q3)
          replace Q1 := Lib.hid (Q1.out.below q3)
          replace Q2 := Lib.hid (Q2.out.below q3)
          try replace Q3 := Lib.hid (Q3.out.below q3)
          clear q3
          refine hK.out _ _ ⟨HF.out.cellN 2 rfl 0 rfl, HF.out.cellN 2 rfl 1 rfl, HF.out.cellN 2 rfl 2 rfl, HF.out.cellN 1 rfl 0 rfl, HF.out.cellN 1 rfl 1 rfl, HF.out.cellN 1 rfl 2 rfl⟩ (fun hHeld => ?_)
          clear hK K
          refine norm_ (a' := ?_) ?_ ?_
          rotate_left
          · show Act.put _ (some 20) _ = _
            simp only [Act.put, s1, s2, s3]; rfl
          refine two_ (i := 11) (j := 13) (Ni := (some 21)) (Nj := (some 5)) #[true, true, true, true, true, true, true, true, true, true, true, true, false, false, false] #[true, true, true, true, true, true, true, true, true, true, true, false, false, true, false] rfl rfl rfl rfl (by kernel_rfl) (by decide) (by decide) (fun K hK => ?_) (fun K hK => ?_)
          · refine goes_ Tryz.func250 (by kernel_rfl) rfl #[.agg #[.bool (decide (q.num < 0)), .slice A2 (dg q.num.natAbs).length c2], .agg #[.bool false, .slice B1 (dg p.den).length d1]] (by rfl) rfl rfl (by (try simp only [List.map_toArray, List.map_cons, List.map_nil]); first | done | rfl) ?_
            refine (hM2.out W3 A1 c1 B1 d1 A2 c2 B2 d2 Q1.out Q2.out).mono ?_
            rintro e W4 ⟨A4, c4, rfl, q1, q2, q3⟩
            refine ⟨_, rfl, ?_⟩
            replace HF := Lib.hid (HF.out.below q3)
            replace Q1 := Lib.hid (Q1.out.below q3)
            replace Q2 := Lib.hid (Q2.out.below q3)
            replace Q3 := Lib.hid (Q3.out.below q3)
            have Q4 := Lib.hid (In.dg q2 q1)
            clear q1 q2 q3
            refine hK.out _ _ ⟨HF.out.cellN 2 rfl 0 rfl, HF.out.cellN 2 rfl 1 rfl, HF.out.cellN 2 rfl 2 rfl, HF.out.cellN 1 rfl 0 rfl, HF.out.cellN 1 rfl 1 rfl, HF.out.cellN 1 rfl 2 rfl⟩ (fun hHeld => ?_)
            clear hK K
            refine norm_ (a' := ?_) ?_ ?_
            rotate_left
            · show Act.put _ (some 21) _ = _
              simp only [Act.put, s1, s2, s3]; rfl
            refine two_ (i := 12) (j := 13) (Ni := (some 22)) (Nj := (some 5)) #[true, true, true, true, true, true, true, true, true, true, true, true, true, false, false] #[true, true, true, true, true, true, true, true, true, true, true, true, false, true, false] rfl rfl rfl rfl (by kernel_rfl) (by decide) (by decide) (fun K hK => ?_) (fun K hK => ?_)
            · refine goes_ Tryz.func249 (by kernel_rfl) rfl #[.agg #[.bool (decide (p.num * q.den < 0)), .slice A3 (dg (p.num * q.den).natAbs).length c3], .agg #[.bool (decide (q.num * p.den < 0)), .slice A4 (dg (q.num * p.den).natAbs).length c4]] (by rfl) rfl rfl (by (try simp only [List.map_toArray, List.map_cons, List.map_nil]); first | done | rfl) ?_
              refine (hA.out W4 A3 c3 A4 c4 Q3.out Q4.out).mono ?_
              rintro e W5 ⟨A5, c5, rfl, q1, q2, q3⟩
              refine ⟨_, rfl, ?_⟩
              replace HF := Lib.hid (HF.out.below q3)
              replace Q1 := Lib.hid (Q1.out.below q3)
              replace Q2 := Lib.hid (Q2.out.below q3)
              have Q5 := Lib.hid (In.dg q2 q1)
              clear q1 q2 q3 Q3 Q4
              refine hK.out _ _ ⟨HF.out.cellN 2 rfl 0 rfl, HF.out.cellN 2 rfl 1 rfl, HF.out.cellN 2 rfl 2 rfl, HF.out.cellN 1 rfl 0 rfl, HF.out.cellN 1 rfl 1 rfl, HF.out.cellN 1 rfl 2 rfl⟩ (fun hHeld => ?_)
              clear hK K
              refine norm_ (a' := ?_) ?_ ?_
              rotate_left
              · show Act.put _ (some 22) _ = _
                simp only [Act.put, s1, s2, s3]; rfl
              refine one_ (i := 13) (N := (some 5)) #[true, true, true, true, true, true, true, true, true, true, true, true, true, true, false] rfl rfl (by kernel_rfl) (by decide) (fun K hK => ?_)
              refine value_ (v := ?_) (w1 := ?_) (by rfl) rfl ?_ ?_
              rotate_left
              rotate_left
              · go_simp
                first | rfl | (refine ⟨?_, ?_⟩ <;> rfl)
              have hgw : w.heap.size + 3 ≤ W5.heap.size := by have := HF.out.ltN 0 rfl; omega
              replace Q1 := Lib.hid (Q1.out.below ((Below.refl _ W5).alloc (Nat.le_refl _) (.cells #[.bool false, .slice none 0 0] 41)))
              replace Q2 := Lib.hid (Q2.out.below ((Below.refl _ W5).alloc (Nat.le_refl _) (.cells #[.bool false, .slice none 0 0] 41)))
              try replace Q3 := Lib.hid (Q3.out.below ((Below.refl _ W5).alloc (Nat.le_refl _) (.cells #[.bool false, .slice none 0 0] 41)))
              try replace Q4 := Lib.hid (Q4.out.below ((Below.refl _ W5).alloc (Nat.le_refl _) (.cells #[.bool false, .slice none 0 0] 41)))
              try replace Q5 := Lib.hid (Q5.out.below ((Below.refl _ W5).alloc (Nat.le_refl _) (.cells #[.bool false, .slice none 0 0] 41)))
              replace HF := Lib.hid (HF.out.boxEnd [.bool false, .slice none 0 0] 41)
              refine hK.out _ _ ⟨HF.out.cellN 2 rfl 0 rfl, HF.out.cellN 2 rfl 1 rfl, HF.out.cellN 2 rfl 2 rfl, HF.out.cellN 1 rfl 0 rfl, HF.out.cellN 1 rfl 1 rfl, HF.out.cellN 1 rfl 2 rfl⟩ (fun hHeld => ?_)
              clear hK K
              refine norm_ (a' := ?_) ?_ ?_
              rotate_left
              · show Act.put _ (some 5) _ = _
                simp only [Act.put, s1, s2, s3]; rfl
              obtain ⟨g, hg⟩ : ∃ g, g = W5.heap.size := ⟨_, rfl⟩
              obtain ⟨W6, hV⟩ : ∃ X, X = W5.alloc (.cells #[.bool false, .slice none 0 0] 41) := ⟨_, rfl⟩
              rw [← hg] at HF hgw ⊢
              rw [← hV] at HF Q1 Q2 ⊢
              try rw [← hV] at Q3
              try rw [← hV] at Q4
              try rw [← hV] at Q5
              clear hg hV
              refine one_ (i := 14) (N := none) #[true, true, true, true, true, true, true, true, true, true, true, true, true, true, true] rfl rfl (by kernel_rfl) (by decide) (fun K hK => ?_)
              have hf0 := HF.out.frozenN 3 rfl 0
              have hf1 := HF.out.frozenN 3 rfl 1
              have hd0 := HF.out.cellN 3 rfl 0 rfl
              have hd1 := HF.out.cellN 3 rfl 1 rfl
              refine skip_ (w1 := ?_) (by rfl) rfl ?_ ?_
              rotate_left
              · go_simp
                rfl
              replace Q1 := Lib.hid (Q1.out.put2 (HF.out.ownN 3 rfl) (by simp) (a := .bool (decide (p.num * q.den + q.num * p.den < 0))) (by simp) (.slice A5 (dg (p.num * q.den + q.num * p.den).natAbs).length c5))
              replace Q2 := Lib.hid (Q2.out.put2 (HF.out.ownN 3 rfl) (by simp) (a := .bool (decide (p.num * q.den + q.num * p.den < 0))) (by simp) (.slice A5 (dg (p.num * q.den + q.num * p.den).natAbs).length c5))
              replace Q5 := Lib.hid (Q5.out.put2 (HF.out.ownN 3 rfl) (by simp) (a := .bool (decide (p.num * q.den + q.num * p.den < 0))) (by simp) (.slice A5 (dg (p.num * q.den + q.num * p.den).natAbs).length c5))
              replace HF := Lib.hid (HF.out.put2 3 rfl (by omega) (by simp; omega) (.bool (decide (p.num * q.den + q.num * p.den < 0))) (.slice A5 (dg (p.num * q.den + q.num * p.den).natAbs).length c5))
              refine hK.out _ _ ⟨HF.out.cellN 2 rfl 0 rfl, HF.out.cellN 2 rfl 1 rfl, HF.out.cellN 2 rfl 2 rfl, HF.out.cellN 1 rfl 0 rfl, HF.out.cellN 1 rfl 1 rfl, HF.out.cellN 1 rfl 2 rfl⟩ (fun hHeld => ?_)
              clear hK K
              exact hcont (g, (A3, c3), (A4, c4), A5, c5) _ ⟨hgw, HF.out, Q1.out, Q2.out, Q5.out⟩
            · refine value_ (v := ?_) (w1 := ?_) (by rfl) rfl ?_ ?_
              rotate_left
              rotate_left
              · go_simp
                first | rfl | (refine ⟨?_, ?_⟩ <;> rfl)
              have hgw : w.heap.size + 3 ≤ W4.heap.size := by have := HF.out.ltN 0 rfl; omega
              replace Q1 := Lib.hid (Q1.out.below ((Below.refl _ W4).alloc (Nat.le_refl _) (.cells #[.bool false, .slice none 0 0] 41)))
              replace Q2 := Lib.hid (Q2.out.below ((Below.refl _ W4).alloc (Nat.le_refl _) (.cells #[.bool false, .slice none 0 0] 41)))
              try replace Q3 := Lib.hid (Q3.out.below ((Below.refl _ W4).alloc (Nat.le_refl _) (.cells #[.bool false, .slice none 0 0] 41)))
              try replace Q4 := Lib.hid (Q4.out.below ((Below.refl _ W4).alloc (Nat.le_refl _) (.cells #[.bool false, .slice none 0 0] 41)))
              try replace Q5 := Lib.hid (Q5.out.below ((Below.refl _ W4).alloc (Nat.le_refl _) (.cells #[.bool false, .slice none 0 0] 41)))
              replace HF := Lib.hid (HF.out.boxEnd [.bool false, .slice none 0 0] 41)
              refine hK.out _ _ ⟨HF.out.cellN 2 rfl 0 rfl, HF.out.cellN 2 rfl 1 rfl, HF.out.cellN 2 rfl 2 rfl, HF.out.cellN 1 rfl 0 rfl, HF.out.cellN 1 rfl 1 rfl, HF.out.cellN 1 rfl 2 rfl⟩ (fun hHeld => ?_)
              clear hK K
              refine norm_ (a' := ?_) ?_ ?_
              rotate_left
              · show Act.put _ (some 5) _ = _
                simp only [Act.put, s1, s2, s3]; rfl
              obtain ⟨g, hg⟩ : ∃ g, g = W4.heap.size := ⟨_, rfl⟩
              obtain ⟨W7, hV⟩ : ∃ X, X = W4.alloc (.cells #[.bool false, .slice none 0 0] 41) := ⟨_, rfl⟩
              rw [← hg] at HF hgw ⊢
              rw [← hV] at HF Q1 Q2 ⊢
              try rw [← hV] at Q3
              try rw [← hV] at Q4
              try rw [← hV] at Q5
              clear hg hV
              refine one_ (i := 12) (N := (some 22)) #[true, true, true, true, true, true, true, true, true, true, true, true, true, true, false] rfl rfl (by kernel_rfl) (by decide) (fun K hK => ?_)
              refine goes_ Tryz.func249 (by kernel_rfl) rfl #[.agg #[.bool (decide (p.num * q.den < 0)), .slice A3 (dg (p.num * q.den).natAbs).length c3], .agg #[.bool (decide (q.num * p.den < 0)), .slice A4 (dg (q.num * p.den).natAbs).length c4]] (by rfl) rfl rfl (by (try simp only [List.map_toArray, List.map_cons, List.map_nil]); first | done | rfl) ?_
              refine (hA.out W7 A3 c3 A4 c4 Q3.out Q4.out).mono ?_
              rintro e W8 ⟨A5, c5, rfl, q1, q2, q3⟩
              refine ⟨_, rfl, ?_⟩
              replace HF := Lib.hid (HF.out.below q3)
              replace Q1 := Lib.hid (Q1.out.below q3)
              replace Q2 := Lib.hid (Q2.out.below q3)
              have Q5 := Lib.hid (In.dg q2 q1)
              clear q1 q2 q3 Q3 Q4
              refine hK.out _ _ ⟨HF.out.cellN 2 rfl 0 rfl, HF.out.cellN 2 rfl 1 rfl, HF.out.cellN 2 rfl 2 rfl, HF.out.cellN 1 rfl 0 rfl, HF.out.cellN 1 rfl 1 rfl, HF.out.cellN 1 rfl 2 rfl⟩ (fun hHeld => ?_)
              clear hK K
              refine norm_ (a' := ?_) ?_ ?_
              rotate_left
              · show Act.put _ (some 22) _ = _
                simp only [Act.put, s1, s2, s3]; rfl
              refine one_ (i := 14) (N := none) #[true, true, true, true, true, true, true, true, true, true, true, true, true, true, true] rfl rfl (by kernel_rfl) (by decide) (fun K hK => ?_)
              have hf0 := HF.out.frozenN 3 rfl 0
              have hf1 := HF.out.frozenN 3 rfl 1
              have hd0 := HF.out.cellN 3 rfl 0 rfl
              have hd1 := HF.out.cellN 3 rfl 1 rfl
              refine skip_ (w1 := ?_) (by rfl) rfl ?_ ?_
              rotate_left
              · go_simp
                rfl
              replace Q1 := Lib.hid (Q1.out.put2 (HF.out.ownN 3 rfl) (by simp) (a := .bool (decide (p.num * q.den + q.num * p.den < 0))) (by simp) (.slice A5 (dg (p.num * q.den + q.num * p.den).natAbs).length c5))
              replace Q2 := Lib.hid (Q2.out.put2 (HF.out.ownN 3 rfl) (by simp) (a := .bool (decide (p.num * q.den + q.num * p.den < 0))) (by simp) (.slice A5 (dg (p.num * q.den + q.num * p.den).natAbs).length c5))
              replace Q5 := Lib.hid (Q5.out.put2 (HF.out.ownN 3 rfl) (by simp) (a := .bool (decide (p.num * q.den + q.num * p.den < 0))) (by simp) (.slice A5 (dg (p.num * q.den + q.num * p.den).natAbs).length c5))
              replace HF := Lib.hid (HF.out.put2 3 rfl (by omega) (by simp; omega) (.bool (decide (p.num * q.den + q.num * p.den < 0))) (.slice A5 (dg (p.num * q.den + q.num * p.den).natAbs).length c5))
              refine hK.out _ _ ⟨HF.out.cellN 2 rfl 0 rfl, HF.out.cellN 2 rfl 1 rfl, HF.out.cellN 2 rfl 2 rfl, HF.out.cellN 1 rfl 0 rfl, HF.out.cellN 1 rfl 1 rfl, HF.out.cellN 1 rfl 2 rfl⟩ (fun hHeld => ?_)
              clear hK K
              exact hcont (g, (A3, c3), (A4, c4), A5, c5) _ ⟨hgw, HF.out, Q1.out, Q2.out, Q5.out⟩
          · refine value_ (v := ?_) (w1 := ?_) (by rfl) rfl ?_ ?_
            rotate_left
            rotate_left
            · go_simp
              first | rfl | (refine ⟨?_, ?_⟩ <;> rfl)
            have hgw : w.heap.size + 3 ≤ W3.heap.size := by have := HF.out.ltN 0 rfl; omega
            replace Q1 := Lib.hid (Q1.out.below ((Below.refl _ W3).alloc (Nat.le_refl _) (.cells #[.bool false, .slice none 0 0] 41)))
            replace Q2 := Lib.hid (Q2.out.below ((Below.refl _ W3).alloc (Nat.le_refl _) (.cells #[.bool false, .slice none 0 0] 41)))
            try replace Q3 := Lib.hid (Q3.out.below ((Below.refl _ W3).alloc (Nat.le_refl _) (.cells #[.bool false, .slice none 0 0] 41)))
            try replace Q4 := Lib.hid (Q4.out.below ((Below.refl _ W3).alloc (Nat.le_refl _) (.cells #[.bool false, .slice none 0 0] 41)))
            try replace Q5 := Lib.hid (Q5.out.below ((Below.refl _ W3).alloc (Nat.le_refl _) (.cells #[.bool false, .slice none 0 0] 41)))
            replace HF := Lib.hid (HF.out.boxEnd [.bool false, .slice none 0 0] 41)
            refine hK.out _ _ ⟨HF.out.cellN 2 rfl 0 rfl, HF.out.cellN 2 rfl 1 rfl, HF.out.cellN 2 rfl 2 rfl, HF.out.cellN 1 rfl 0 rfl, HF.out.cellN 1 rfl 1 rfl, HF.out.cellN 1 rfl 2 rfl⟩ (fun hHeld => ?_)
            clear hK K
            refine norm_ (a' := ?_) ?_ ?_
            rotate_left
            · show Act.put _ (some 5) _ = _
              simp only [Act.put, s1, s2, s3]; rfl
            obtain ⟨g, hg⟩ : ∃ g, g = W3.heap.size := ⟨_, rfl⟩
            obtain ⟨W9, hV⟩ : ∃ X, X = W3.alloc (.cells #[.bool false, .slice none 0 0] 41) := ⟨_, rfl⟩
            rw [← hg] at HF hgw ⊢
            rw [← hV] at HF Q1 Q2 ⊢
            try rw [← hV] at Q3
            try rw [← hV] at Q4
            try rw [← hV] at Q5
            clear hg hV
            refine one_ (i := 11) (N := (some 21)) #[true, true, true, true, true, true, true, true, true, true, true, true, false, true, false] rfl rfl (by kernel_rfl) (by decide) (fun K hK => ?_)
            refine goes_ Tryz.func250 (by kernel_rfl) rfl #[.agg #[.bool (decide (q.num < 0)), .slice A2 (dg q.num.natAbs).length c2], .agg #[.bool false, .slice B1 (dg p.den).length d1]] (by rfl) rfl rfl (by (try simp only [List.map_toArray, List.map_cons, List.map_nil]); first | done | rfl) ?_
            refine (hM2.out W9 A1 c1 B1 d1 A2 c2 B2 d2 Q1.out Q2.out).mono ?_
            rintro e W10 ⟨A4, c4, rfl, q1, q2, q3⟩
            refine ⟨_, rfl, ?_⟩
            replace HF := Lib.hid (HF.out.below q3)
            replace Q1 := Lib.hid (Q1.out.below q3)
            replace Q2 := Lib.hid (Q2.out.below q3)
            replace Q3 := Lib.hid (Q3.out.below q3)
            have Q4 := Lib.hid (In.dg q2 q1)
            clear q1 q2 q3
            refine hK.out _ _ ⟨HF.out.cellN 2 rfl 0 rfl, HF.out.cellN 2 rfl 1 rfl, HF.out.cellN 2 rfl 2 rfl, HF.out.cellN 1 rfl 0 rfl, HF.out.cellN 1 rfl 1 rfl, HF.out.cellN 1 rfl 2 rfl⟩ (fun hHeld => ?_)
            clear hK K
            refine norm_ (a' := ?_) ?_ ?_
            rotate_left
            · show Act.put _ (some 21) _ = _
              simp only [Act.put, s1, s2, s3]; rfl
            refine one_ (i := 12) (N := (some 22)) #[true, true, true, true, true, true, true, true, true, true, true, true, true, true, false] rfl rfl (by kernel_rfl) (by decide) (fun K hK => ?_)
            refine goes_ Tryz.func249 (by kernel_rfl) rfl #[.agg #[.bool (decide (p.num * q.den < 0)), .slice A3 (dg (p.num * q.den).natAbs).length c3], .agg #[.bool (decide (q.num * p.den < 0)), .slice A4 (dg (q.num * p.den).natAbs).length c4]] (by rfl) rfl rfl (by (try simp only [List.map_toArray, List.map_cons, List.map_nil]); first | done | rfl) ?_
            refine (hA.out W10 A3 c3 A4 c4 Q3.out Q4.out).mono ?_
            rintro e W11 ⟨A5, c5, rfl, q1, q2, q3⟩
            refine ⟨_, rfl, ?_⟩
            replace HF := Lib.hid (HF.out.below q3)
            replace Q1 := Lib.hid (Q1.out.below q3)
            replace Q2 := Lib.hid (Q2.out.below q3)
            have Q5 := Lib.hid (In.dg q2 q1)
            clear q1 q2 q3 Q3 Q4
            refine hK.out _ _ ⟨HF.out.cellN 2 rfl 0 rfl, HF.out.cellN 2 rfl 1 rfl, HF.out.cellN 2 rfl 2 rfl, HF.out.cellN 1 rfl 0 rfl, HF.out.cellN 1 rfl 1 rfl, HF.out.cellN 1 rfl 2 rfl⟩ (fun hHeld => ?_)
            clear hK K
            refine norm_ (a' := ?_) ?_ ?_
            rotate_left
            · show Act.put _ (some 22) _ = _
              simp only [Act.put, s1, s2, s3]; rfl
            refine one_ (i := 14) (N := none) #[true, true, true, true, true, true, true, true, true, true, true, true, true, true, true] rfl rfl (by kernel_rfl) (by decide) (fun K hK => ?_)
            have hf0 := HF.out.frozenN 3 rfl 0
            have hf1 := HF.out.frozenN 3 rfl 1
            have hd0 := HF.out.cellN 3 rfl 0 rfl
            have hd1 := HF.out.cellN 3 rfl 1 rfl
            refine skip_ (w1 := ?_) (by rfl) rfl ?_ ?_
            rotate_left
            · go_simp
              rfl
            replace Q1 := Lib.hid (Q1.out.put2 (HF.out.ownN 3 rfl) (by simp) (a := .bool (decide (p.num * q.den + q.num * p.den < 0))) (by simp) (.slice A5 (dg (p.num * q.den + q.num * p.den).natAbs).length c5))
            replace Q2 := Lib.hid (Q2.out.put2 (HF.out.ownN 3 rfl) (by simp) (a := .bool (decide (p.num * q.den + q.num * p.den < 0))) (by simp) (.slice A5 (dg (p.num * q.den + q.num * p.den).natAbs).length c5))
            replace Q5 := Lib.hid (Q5.out.put2 (HF.out.ownN 3 rfl) (by simp) (a := .bool (decide (p.num * q.den + q.num * p.den < 0))) (by simp) (.slice A5 (dg (p.num * q.den + q.num * p.den).natAbs).length c5))
            replace HF := Lib.hid (HF.out.put2 3 rfl (by omega) (by simp; omega) (.bool (decide (p.num * q.den + q.num * p.den < 0))) (.slice A5 (dg (p.num * q.den + q.num * p.den).natAbs).length c5))
            refine hK.out _ _ ⟨HF.out.cellN 2 rfl 0 rfl, HF.out.cellN 2 rfl 1 rfl, HF.out.cellN 2 rfl 2 rfl, HF.out.cellN 1 rfl 0 rfl, HF.out.cellN 1 rfl 1 rfl, HF.out.cellN 1 rfl 2 rfl⟩ (fun hHeld => ?_)
            clear hK K
            exact hcont (g, (A3, c3), (A4, c4), A5, c5) _ ⟨hgw, HF.out, Q1.out, Q2.out, Q5.out⟩
        · refine value_ (v := ?_) (w1 := ?_) (by rfl) rfl ?_ ?_
          rotate_left
          rotate_left
          · go_simp
            first | rfl | (refine ⟨?_, ?_⟩ <;> rfl)
          have hgw : w.heap.size + 3 ≤ W2.heap.size := by have := HF.out.ltN 0 rfl; omega
          replace Q1 := Lib.hid (Q1.out.below ((Below.refl _ W2).alloc (Nat.le_refl _) (.cells #[.bool false, .slice none 0 0] 41)))
          replace Q2 := Lib.hid (Q2.out.below ((Below.refl _ W2).alloc (Nat.le_refl _) (.cells #[.bool false, .slice none 0 0] 41)))
          try replace Q3 := Lib.hid (Q3.out.below ((Below.refl _ W2).alloc (Nat.le_refl _) (.cells #[.bool false, .slice none 0 0] 41)))
          try replace Q4 := Lib.hid (Q4.out.below ((Below.refl _ W2).alloc (Nat.le_refl _) (.cells #[.bool false, .slice none 0 0] 41)))
          try replace Q5 := Lib.hid (Q5.out.below ((Below.refl _ W2).alloc (Nat.le_refl _) (.cells #[.bool false, .slice none 0 0] 41)))
          replace HF := Lib.hid (HF.out.boxEnd [.bool false, .slice none 0 0] 41)
          refine hK.out _ _ ⟨HF.out.cellN 2 rfl 0 rfl, HF.out.cellN 2 rfl 1 rfl, HF.out.cellN 2 rfl 2 rfl, HF.out.cellN 1 rfl 0 rfl, HF.out.cellN 1 rfl 1 rfl, HF.out.cellN 1 rfl 2 rfl⟩ (fun hHeld => ?_)
          clear hK K
          refine norm_ (a' := ?_) ?_ ?_
          rotate_left
          · show Act.put _ (some 5) _ = _
            simp only [Act.put, s1, s2, s3]; rfl
          obtain ⟨g, hg⟩ : ∃ g, g = W2.heap.size := ⟨_, rfl⟩
          obtain ⟨W12, hV⟩ : ∃ X, X = W2.alloc (.cells #[.bool false, .slice none 0 0] 41) := ⟨_, rfl⟩
          rw [← hg] at HF hgw ⊢
          rw [← hV] at HF Q1 Q2 ⊢
          try rw [← hV] at Q3
          try rw [← hV] at Q4
          try rw [← hV] at Q5
          clear hg hV
          refine one_ (i := 10) (N := (some 20)) #[true, true, true, true, true, true, true, true, true, true, true, false, false, true, false] rfl rfl (by kernel_rfl) (by decide) (fun K hK => ?_)
          refine goes_ Tryz.func251 (by kernel_rfl) rfl #[.slice B1 (dg p.den).length d1] (by rfl) rfl rfl (by (try simp only [List.map_toArray, List.map_cons, List.map_nil]); first | done | rfl) ?_
          refine (r3_positive B1 (dg p.den).length d1 W12).mono ?_
          rintro e W13 ⟨rfl, q3⟩
          refine ⟨_, rfl, ?_⟩
          replace HF := Lib.hid (HF.out.below q3)
          replace Q1 := Lib.hid (Q1.out.below q3)
          replace Q2 := Lib.hid (Q2.out.below q3)
          try replace Q3 := Lib.hid (Q3.out.below q3)
          clear q3
          refine hK.out _ _ ⟨HF.out.cellN 2 rfl 0 rfl, HF.out.cellN 2 rfl 1 rfl, HF.out.cellN 2 rfl 2 rfl, HF.out.cellN 1 rfl 0 rfl, HF.out.cellN 1 rfl 1 rfl, HF.out.cellN 1 rfl 2 rfl⟩ (fun hHeld => ?_)
          clear hK K
          refine norm_ (a' := ?_) ?_ ?_
          rotate_left
          · show Act.put _ (some 20) _ = _
            simp only [Act.put, s1, s2, s3]; rfl
          refine one_ (i := 11) (N := (some 21)) #[true, true, true, true, true, true, true, true, true, true, true, true, false, true, false] rfl rfl (by kernel_rfl) (by decide) (fun K hK => ?_)
          refine goes_ Tryz.func250 (by kernel_rfl) rfl #[.agg #[.bool (decide (q.num < 0)), .slice A2 (dg q.num.natAbs).length c2], .agg #[.bool false, .slice B1 (dg p.den).length d1]] (by rfl) rfl rfl (by (try simp only [List.map_toArray, List.map_cons, List.map_nil]); first | done | rfl) ?_
          refine (hM2.out W13 A1 c1 B1 d1 A2 c2 B2 d2 Q1.out Q2.out).mono ?_
          rintro e W14 ⟨A4, c4, rfl, q1, q2, q3⟩
          refine ⟨_, rfl, ?_⟩
          replace HF := Lib.hid (HF.out.below q3)
          replace Q1 := Lib.hid (Q1.out.below q3)
          replace Q2 := Lib.hid (Q2.out.below q3)
          replace Q3 := Lib.hid (Q3.out.below q3)
          have Q4 := Lib.hid (In.dg q2 q1)
          clear q1 q2 q3
          refine hK.out _ _ ⟨HF.out.cellN 2 rfl 0 rfl, HF.out.cellN 2 rfl 1 rfl, HF.out.cellN 2 rfl 2 rfl, HF.out.cellN 1 rfl 0 rfl, HF.out.cellN 1 rfl 1 rfl, HF.out.cellN 1 rfl 2 rfl⟩ (fun hHeld => ?_)
          clear hK K
          refine norm_ (a' := ?_) ?_ ?_
          rotate_left
          · show Act.put _ (some 21) _ = _
            simp only [Act.put, s1, s2, s3]; rfl
          refine one_ (i := 12) (N := (some 22)) #[true, true, true, true, true, true, true, true, true, true, true, true, true, true, false] rfl rfl (by kernel_rfl) (by decide) (fun K hK => ?_)
          refine goes_ Tryz.func249 (by kernel_rfl) rfl #[.agg #[.bool (decide (p.num * q.den < 0)), .slice A3 (dg (p.num * q.den).natAbs).length c3], .agg #[.bool (decide (q.num * p.den < 0)), .slice A4 (dg (q.num * p.den).natAbs).length c4]] (by rfl) rfl rfl (by (try simp only [List.map_toArray, List.map_cons, List.map_nil]); first | done | rfl) ?_
          refine (hA.out W14 A3 c3 A4 c4 Q3.out Q4.out).mono ?_
          rintro e W15 ⟨A5, c5, rfl, q1, q2, q3⟩
          refine ⟨_, rfl, ?_⟩
          replace HF := Lib.hid (HF.out.below q3)
          replace Q1 := Lib.hid (Q1.out.below q3)
          replace Q2 := Lib.hid (Q2.out.below q3)
          have Q5 := Lib.hid (In.dg q2 q1)
          clear q1 q2 q3 Q3 Q4
          refine hK.out _ _ ⟨HF.out.cellN 2 rfl 0 rfl, HF.out.cellN 2 rfl 1 rfl, HF.out.cellN 2 rfl 2 rfl, HF.out.cellN 1 rfl 0 rfl, HF.out.cellN 1 rfl 1 rfl, HF.out.cellN 1 rfl 2 rfl⟩ (fun hHeld => ?_)
          clear hK K
          refine norm_ (a' := ?_) ?_ ?_
          rotate_left
          · show Act.put _ (some 22) _ = _
            simp only [Act.put, s1, s2, s3]; rfl
          refine one_ (i := 14) (N := none) #[true, true, true, true, true, true, true, true, true, true, true, true, true, true, true] rfl rfl (by kernel_rfl) (by decide) (fun K hK => ?_)
          have hf0 := HF.out.frozenN 3 rfl 0
          have hf1 := HF.out.frozenN 3 rfl 1
          have hd0 := HF.out.cellN 3 rfl 0 rfl
          have hd1 := HF.out.cellN 3 rfl 1 rfl
          refine skip_ (w1 := ?_) (by rfl) rfl ?_ ?_
          rotate_left
          · go_simp
            rfl
          replace Q1 := Lib.hid (Q1.out.put2 (HF.out.ownN 3 rfl) (by simp) (a := .bool (decide (p.num * q.den + q.num * p.den < 0))) (by simp) (.slice A5 (dg (p.num * q.den + q.num * p.den).natAbs).length c5))
          replace Q2 := Lib.hid (Q2.out.put2 (HF.out.ownN 3 rfl) (by simp) (a := .bool (decide (p.num * q.den + q.num * p.den < 0))) (by simp) (.slice A5 (dg (p.num * q.den + q.num * p.den).natAbs).length c5))
          replace Q5 := Lib.hid (Q5.out.put2 (HF.out.ownN 3 rfl) (by simp) (a := .bool (decide (p.num * q.den + q.num * p.den < 0))) (by simp) (.slice A5 (dg (p.num * q.den + q.num * p.den).natAbs).length c5))
          replace HF := Lib.hid (HF.out.put2 3 rfl (by omega) (by simp; omega) (.bool (decide (p.num * q.den + q.num * p.den < 0))) (.slice A5 (dg (p.num * q.den + q.num * p.den).natAbs).length c5))
          refine hK.out _ _ ⟨HF.out.cellN 2 rfl 0 rfl, HF.out.cellN 2 rfl 1 rfl, HF.out.cellN 2 rfl 2 rfl, HF.out.cellN 1 rfl 0 rfl, HF.out.cellN 1 rfl 1 rfl, HF.out.cellN 1 rfl 2 rfl⟩ (fun hHeld => ?_)
          clear hK K
          exact hcont (g, (A3, c3), (A4, c4), A5, c5) _ ⟨hgw, HF.out, Q1.out, Q2.out, Q5.out⟩
      · refine value_ (v := ?_) (w1 := ?_) (by rfl) rfl ?_ ?_
        rotate_left
        rotate_left
        · go_simp
          first | rfl | (refine ⟨?_, ?_⟩ <;> rfl)
        have hgw : w.heap.size + 3 ≤ W1.heap.size := by have := HF.out.ltN 0 rfl; omega
        replace Q1 := Lib.hid (Q1.out.below ((Below.refl _ W1).alloc (Nat.le_refl _) (.cells #[.bool false, .slice none 0 0] 41)))
        replace Q2 := Lib.hid (Q2.out.below ((Below.refl _ W1).alloc (Nat.le_refl _) (.cells #[.bool false, .slice none 0 0] 41)))
        try replace Q3 := Lib.hid (Q3.out.below ((Below.refl _ W1).alloc (Nat.le_refl _) (.cells #[.bool false, .slice none 0 0] 41)))
        try replace Q4 := Lib.hid (Q4.out.below ((Below.refl _ W1).alloc (Nat.le_refl _) (.cells #[.bool false, .slice none 0 0] 41)))
        try replace Q5 := Lib.hid (Q5.out.below ((Below.refl _ W1).alloc (Nat.le_refl _) (.cells #[.bool false, .slice none 0 0] 41)))
        replace HF := Lib.hid (HF.out.boxEnd [.bool false, .slice none 0 0] 41)
        refine hK.out _ _ ⟨HF.out.cellN 2 rfl 0 rfl, HF.out.cellN 2 rfl 1 rfl, HF.out.cellN 2 rfl 2 rfl, HF.out.cellN 1 rfl 0 rfl, HF.out.cellN 1 rfl 1 rfl, HF.out.cellN 1 rfl 2 rfl⟩ (fun hHeld => ?_)
        clear hK K
        refine norm_ (a' := ?_) ?_ ?_
        rotate_left
        · show Act.put _ (some 5) _ = _
          simp only [Act.put, s1, s2, s3]; rfl
        obtain ⟨g, hg⟩ : ∃ g, g = W1.heap.size := ⟨_, rfl⟩
        obtain ⟨W16, hV⟩ : ∃ X, X = W1.alloc (.cells #[.bool false, .slice none 0 0] 41) := ⟨_, rfl⟩
        rw [← hg] at HF hgw ⊢
        rw [← hV] at HF Q1 Q2 ⊢
        try rw [← hV] at Q3
        try rw [← hV] at Q4
        try rw [← hV] at Q5
        clear hg hV
        refine one_ (i := 5) (N := (some 15)) #[true, true, true, true, true, true, true, true, true, true, false, false, false, true, false] rfl rfl (by kernel_rfl) (by decide) (fun K hK => ?_)
        refine goes_ Tryz.func250 (by kernel_rfl) rfl #[.agg #[.bool (decide (p.num < 0)), .slice A1 (dg p.num.natAbs).length c1], .agg #[.bool false, .slice B2 (dg q.den).length d2]] (by rfl) rfl rfl (by (try simp only [List.map_toArray, List.map_cons, List.map_nil]); first | done | rfl) ?_
        refine (hM1.out W16 A1 c1 B1 d1 A2 c2 B2 d2 Q1.out Q2.out).mono ?_
        rintro e W17 ⟨A3, c3, rfl, q1, q2, q3⟩
        refine ⟨_, rfl, ?_⟩
        replace HF := Lib.hid (HF.out.below q3)
        replace Q1 := Lib.hid (Q1.out.below q3)
        replace Q2 := Lib.hid (Q2.out.below q3)
        have Q3 := Lib.hid (In.dg q2 q1)
        clear q1 q2 q3
        refine hK.out _ _ ⟨HF.out.cellN 2 rfl 0 rfl, HF.out.cellN 2 rfl 1 rfl, HF.out.cellN 2 rfl 2 rfl, HF.out.cellN 1 rfl 0 rfl, HF.out.cellN 1 rfl 1 rfl, HF.out.cellN 1 rfl 2 rfl⟩ (fun hHeld => ?_)
        clear hK K
        refine norm_ (a' := ?_) ?_ ?_
        rotate_left
        · show Act.put _ (some 15) _ = _
          simp only [Act.put, s1, s2, s3]; rfl
        refine one_ (i := 10) (N := (some 20)) #[true, true, true, true, true, true, true, true, true, true, true, false, false, true, false] rfl rfl (by kernel_rfl) (by decide) (fun K hK => ?_)
        refine goes_ Tryz.func251 (by kernel_rfl) rfl #[.slice B1 (dg p.den).length d1] (by rfl) rfl rfl (by (try simp only [List.map_toArray, List.map_cons, List.map_nil]); first | done | rfl) ?_
        refine (r3_positive B1 (dg p.den).length d1 W17).mono ?_
        rintro e W18 ⟨rfl, q3⟩
        refine ⟨_, rfl, ?_⟩
        replace HF := Lib.hid (HF.out.below q3)
        replace Q1 := Lib.hid (Q1.out.below q3)
        replace Q2 := Lib.hid (Q2.out.below q3)
        try replace Q3 := Lib.hid (Q3.out.below q3)
        clear q3
        refine hK.out _ _ ⟨HF.out.cellN 2 rfl 0 rfl, HF.out.cellN 2 rfl 1 rfl, HF.out.cellN 2 rfl 2 rfl, HF.out.cellN 1 rfl 0 rfl, HF.out.cellN 1 rfl 1 rfl, HF.out.cellN 1 rfl 2 rfl⟩ (fun hHeld => ?_)
        clear hK K
        refine norm_ (a' := ?_) ?_ ?_
        rotate_left
        · show Act.put _ (some 20) _ = _
          simp only [Act.put, s1, s2, s3]; rfl
        refine one_ (i := 11) (N := (some 21)) #[true, true, true, true, true, true, true, true, true, true, true, true, false, true, false] rfl rfl (by kernel_rfl) (by decide) (fun K hK => ?_)
        refine goes_ Tryz.func250 (by kernel_rfl) rfl #[.agg #[.bool (decide (q.num < 0)), .slice A2 (dg q.num.natAbs).length c2], .agg #[.bool false, .slice B1 (dg p.den).length d1]] (by rfl) rfl rfl (by (try simp only [List.map_toArray, List.map_cons, List.map_nil]); first | done | rfl) ?_
        refine (hM2.out W18 A1 c1 B1 d1 A2 c2 B2 d2 Q1.out Q2.out).mono ?_
        rintro e W19 ⟨A4, c4, rfl, q1, q2, q3⟩
        refine ⟨_, rfl, ?_⟩
        replace HF := Lib.hid (HF.out.below q3)
        replace Q1 := Lib.hid (Q1.out.below q3)
        replace Q2 := Lib.hid (Q2.out.below q3)
        replace Q3 := Lib.hid (Q3.out.below q3)
        have Q4 := Lib.hid (In.dg q2 q1)
        clear q1 q2 q3
        refine hK.out _ _ ⟨HF.out.cellN 2 rfl 0 rfl, HF.out.cellN 2 rfl 1 rfl, HF.out.cellN 2 rfl 2 rfl, HF.out.cellN 1 rfl 0 rfl, HF.out.cellN 1 rfl 1 rfl, HF.out.cellN 1 rfl 2 rfl⟩ (fun hHeld => ?_)
        clear hK K
        refine norm_ (a' := ?_) ?_ ?_
        rotate_left
        · show Act.put _ (some 21) _ = _
          simp only [Act.put, s1, s2, s3]; rfl
        refine one_ (i := 12) (N := (some 22)) #[true, true, true, true, true, true, true, true, true, true, true, true, true, true, false] rfl rfl (by kernel_rfl) (by decide) (fun K hK => ?_)
        refine goes_ Tryz.func249 (by kernel_rfl) rfl #[.agg #[.bool (decide (p.num * q.den < 0)), .slice A3 (dg (p.num * q.den).natAbs).length c3], .agg #[.bool (decide (q.num * p.den < 0)), .slice A4 (dg (q.num * p.den).natAbs).length c4]] (by rfl) rfl rfl (by (try simp only [List.map_toArray, List.map_cons, List.map_nil]); first | done | rfl) ?_
        refine (hA.out W19 A3 c3 A4 c4 Q3.out Q4.out).mono ?_
        rintro e W20 ⟨A5, c5, rfl, q1, q2, q3⟩
        refine ⟨_, rfl, ?_⟩
        replace HF := Lib.hid (HF.out.below q3)
        replace Q1 := Lib.hid (Q1.out.below q3)
        replace Q2 := Lib.hid (Q2.out.below q3)
        have Q5 := Lib.hid (In.dg q2 q1)
        clear q1 q2 q3 Q3 Q4
        refine hK.out _ _ ⟨HF.out.cellN 2 rfl 0 rfl, HF.out.cellN 2 rfl 1 rfl, HF.out.cellN 2 rfl 2 rfl, HF.out.cellN 1 rfl 0 rfl, HF.out.cellN 1 rfl 1 rfl, HF.out.cellN 1 rfl 2 rfl⟩ (fun hHeld => ?_)
        clear hK K
        refine norm_ (a' := ?_) ?_ ?_
        rotate_left
        · show Act.put _ (some 22) _ = _
          simp only [Act.put, s1, s2, s3]; rfl
        refine one_ (i := 14) (N := none) #[true, true, true, true, true, true, true, true, true, true, true, true, true, true, true] rfl rfl (by kernel_rfl) (by decide) (fun K hK => ?_)
        have hf0 := HF.out.frozenN 3 rfl 0
        have hf1 := HF.out.frozenN 3 rfl 1
        have hd0 := HF.out.cellN 3 rfl 0 rfl
        have hd1 := HF.out.cellN 3 rfl 1 rfl
        refine skip_ (w1 := ?_) (by rfl) rfl ?_ ?_
        rotate_left
        · go_simp
          rfl
        replace Q1 := Lib.hid (Q1.out.put2 (HF.out.ownN 3 rfl) (by simp) (a := .bool (decide (p.num * q.den + q.num * p.den < 0))) (by simp) (.slice A5 (dg (p.num * q.den + q.num * p.den).natAbs).length c5))
        replace Q2 := Lib.hid (Q2.out.put2 (HF.out.ownN 3 rfl) (by simp) (a := .bool (decide (p.num * q.den + q.num * p.den < 0))) (by simp) (.slice A5 (dg (p.num * q.den + q.num * p.den).natAbs).length c5))
        replace Q5 := Lib.hid (Q5.out.put2 (HF.out.ownN 3 rfl) (by simp) (a := .bool (decide (p.num * q.den + q.num * p.den < 0))) (by simp) (.slice A5 (dg (p.num * q.den + q.num * p.den).natAbs).length c5))
        replace HF := Lib.hid (HF.out.put2 3 rfl (by omega) (by simp; omega) (.bool (decide (p.num * q.den + q.num * p.den < 0))) (.slice A5 (dg (p.num * q.den + q.num * p.den).natAbs).length c5))
        refine hK.out _ _ ⟨HF.out.cellN 2 rfl 0 rfl, HF.out.cellN 2 rfl 1 rfl, HF.out.cellN 2 rfl 2 rfl, HF.out.cellN 1 rfl 0 rfl, HF.out.cellN 1 rfl 1 rfl, HF.out.cellN 1 rfl 2 rfl⟩ (fun hHeld => ?_)
        clear hK K
        exact hcont (g, (A3, c3), (A4, c4), A5, c5) _ ⟨hgw, HF.out, Q1.out, Q2.out, Q5.out⟩
    · refine value_ (v := ?_) (w1 := ?_) (by rfl) rfl ?_ ?_
      rotate_left
      rotate_left
      · go_simp
        first | rfl | (refine ⟨?_, ?_⟩ <;> rfl)
      have hgw : w.heap.size + 3 ≤ W.heap.size := by have := HF.out.ltN 0 rfl; omega
      replace Q1 := Lib.hid (Q1.out.below ((Below.refl _ W).alloc (Nat.le_refl _) (.cells #[.bool false, .slice none 0 0] 41)))
      replace Q2 := Lib.hid (Q2.out.below ((Below.refl _ W).alloc (Nat.le_refl _) (.cells #[.bool false, .slice none 0 0] 41)))
      try replace Q3 := Lib.hid (Q3.out.below ((Below.refl _ W).alloc (Nat.le_refl _) (.cells #[.bool false, .slice none 0 0] 41)))
      try replace Q4 := Lib.hid (Q4.out.below ((Below.refl _ W).alloc (Nat.le_refl _) (.cells #[.bool false, .slice none 0 0] 41)))
      try replace Q5 := Lib.hid (Q5.out.below ((Below.refl _ W).alloc (Nat.le_refl _) (.cells #[.bool false, .slice none 0 0] 41)))
      replace HF := Lib.hid (HF.out.boxEnd [.bool false, .slice none 0 0] 41)
      refine hK.out _ _ ⟨HF.out.cellN 2 rfl 0 rfl, HF.out.cellN 2 rfl 1 rfl, HF.out.cellN 2 rfl 2 rfl, HF.out.cellN 1 rfl 0 rfl, HF.out.cellN 1 rfl 1 rfl, HF.out.cellN 1 rfl 2 rfl⟩ (fun hHeld => ?_)
      clear hK K
      refine norm_ (a' := ?_) ?_ ?_
      rotate_left
      · show Act.put _ (some 5) _ = _
        simp only [Act.put, s1, s2, s3]; rfl
      obtain ⟨g, hg⟩ : ∃ g, g = W.heap.size := ⟨_, rfl⟩
      obtain ⟨W21, hV⟩ : ∃ X, X = W.alloc (.cells #[.bool false, .slice none 0 0] 41) := ⟨_, rfl⟩
      rw [← hg] at HF hgw ⊢
      rw [← hV] at HF Q1 Q2 ⊢
      try rw [← hV] at Q3
      try rw [← hV] at Q4
      try rw [← hV] at Q5
      clear hg hV
      refine one_ (i := 4) (N := (some 14)) #[true, true, true, true, true, false, true, true, true, true, false, false, false, true, false] rfl rfl (by kernel_rfl) (by decide) (fun K hK => ?_)
      refine goes_ Tryz.func251 (by kernel_rfl) rfl #[.slice B2 (dg q.den).length d2] (by rfl) rfl rfl (by (try simp only [List.map_toArray, List.map_cons, List.map_nil]); first | done | rfl) ?_
      refine (r3_positive B2 (dg q.den).length d2 W21).mono ?_
      rintro e W22 ⟨rfl, q3⟩
      refine ⟨_, rfl, ?_⟩
      replace HF := Lib.hid (HF.out.below q3)
      replace Q1 := Lib.hid (Q1.out.below q3)
      replace Q2 := Lib.hid (Q2.out.below q3)
      try replace Q3 := Lib.hid (Q3.out.below q3)
      clear q3
      refine hK.out _ _ ⟨HF.out.cellN 2 rfl 0 rfl, HF.out.cellN 2 rfl 1 rfl, HF.out.cellN 2 rfl 2 rfl, HF.out.cellN 1 rfl 0 rfl, HF.out.cellN 1 rfl 1 rfl, HF.out.cellN 1 rfl 2 rfl⟩ (fun hHeld => ?_)
      clear hK K
      refine norm_ (a' := ?_) ?_ ?_
      rotate_left
      · show Act.put _ (some 14) _ = _
        simp only [Act.put, s1, s2, s3]; rfl
      refine one_ (i := 5) (N := (some 15)) #[true, true, true, true, true, true, true, true, true, true, false, false, false, true, false] rfl rfl (by kernel_rfl) (by decide) (fun K hK => ?_)
      refine goes_ Tryz.func250 (by kernel_rfl) rfl #[.agg #[.bool (decide (p.num < 0)), .slice A1 (dg p.num.natAbs).length c1], .agg #[.bool false, .slice B2 (dg q.den).length d2]] (by rfl) rfl rfl (by (try simp only [List.map_toArray, List.map_cons, List.map_nil]); first | done | rfl) ?_
      refine (hM1.out W22 A1 c1 B1 d1 A2 c2 B2 d2 Q1.out Q2.out).mono ?_
      rintro e W23 ⟨A3, c3, rfl, q1, q2, q3⟩
      refine ⟨_, rfl, ?_⟩
      replace HF := Lib.hid (HF.out.below q3)
      replace Q1 := Lib.hid (Q1.out.below q3)
      replace Q2 := Lib.hid (Q2.out.below q3)
      have Q3 := Lib.hid (In.dg q2 q1)
      clear q1 q2 q3
      refine hK.out _ _ ⟨HF.out.cellN 2 rfl 0 rfl, HF.out.cellN 2 rfl 1 rfl, HF.out.cellN 2 rfl 2 rfl, HF.out.cellN 1 rfl 0 rfl, HF.out.cellN 1 rfl 1 rfl, HF.out.cellN 1 rfl 2 rfl⟩ (fun hHeld => ?_)
      clear hK K
      refine norm_ (a' := ?_) ?_ ?_
      rotate_left
      · show Act.put _ (some 15) _ = _
        simp only [Act.put, s1, s2, s3]; rfl
      refine one_ (i := 10) (N := (some 20)) #[true, true, true, true, true, true, true, true, true, true, true, false, false, true, false] rfl rfl (by kernel_rfl) (by decide) (fun K hK => ?_)
      refine goes_ Tryz.func251 (by kernel_rfl) rfl #[.slice B1 (dg p.den).length d1] (by rfl) rfl rfl (by (try simp only [List.map_toArray, List.map_cons, List.map_nil]); first | done | rfl) ?_
      refine (r3_positive B1 (dg p.den).length d1 W23).mono ?_
      rintro e W24 ⟨rfl, q3⟩
      refine ⟨_, rfl, ?_⟩
      replace HF := Lib.hid (HF.out.below q3)
      replace Q1 := Lib.hid (Q1.out.below q3)
      replace Q2 := Lib.hid (Q2.out.below q3)
      try replace Q3 := Lib.hid (Q3.out.below q3)
      clear q3
      refine hK.out _ _ ⟨HF.out.cellN 2 rfl 0 rfl, HF.out.cellN 2 rfl 1 rfl, HF.out.cellN 2 rfl 2 rfl, HF.out.cellN 1 rfl 0 rfl, HF.out.cellN 1 rfl 1 rfl, HF.out.cellN 1 rfl 2 rfl⟩ (fun hHeld => ?_)
      clear hK K
      refine norm_ (a' := ?_) ?_ ?_
      rotate_left
      · show Act.put _ (some 20) _ = _
        simp only [Act.put, s1, s2, s3]; rfl
      refine one_ (i := 11) (N := (some 21)) #[true, true, true, true, true, true, true, true, true, true, true, true, false, true, false] rfl rfl (by kernel_rfl) (by decide) (fun K hK => ?_)
      refine goes_ Tryz.func250 (by kernel_rfl) rfl #[.agg #[.bool (decide (q.num < 0)), .slice A2 (dg q.num.natAbs).length c2], .agg #[.bool false, .slice B1 (dg p.den).length d1]] (by rfl) rfl rfl (by (try simp only [List.map_toArray, List.map_cons, List.map_nil]); first | done | rfl) ?_
      refine (hM2.out W24 A1 c1 B1 d1 A2 c2 B2 d2 Q1.out Q2.out).mono ?_
      rintro e W25 ⟨A4, c4, rfl, q1, q2, q3⟩
      refine ⟨_, rfl, ?_⟩
      replace HF := Lib.hid (HF.out.below q3)
      replace Q1 := Lib.hid (Q1.out.below q3)
      replace Q2 := Lib.hid (Q2.out.below q3)
      replace Q3 := Lib.hid (Q3.out.below q3)
      have Q4 := Lib.hid (In.dg q2 q1)
      clear q1 q2 q3
      refine hK.out _ _ ⟨HF.out.cellN 2 rfl 0 rfl, HF.out.cellN 2 rfl 1 rfl, HF.out.cellN 2 rfl 2 rfl, HF.out.cellN 1 rfl 0 rfl, HF.out.cellN 1 rfl 1 rfl, HF.out.cellN 1 rfl 2 rfl⟩ (fun hHeld => ?_)
      clear hK K
      refine norm_ (a' := ?_) ?_ ?_
      rotate_left
      · show Act.put _ (some 21) _ = _
        simp only [Act.put, s1, s2, s3]; rfl
      refine one_ (i := 12) (N := (some 22)) #[true, true, true, true, true, true, true, true, true, true, true, true, true, true, false] rfl rfl (by kernel_rfl) (by decide) (fun K hK => ?_)
      refine goes_ Tryz.func249 (by kernel_rfl) rfl #[.agg #[.bool (decide (p.num * q.den < 0)), .slice A3 (dg (p.num * q.den).natAbs).length c3], .agg #[.bool (decide (q.num * p.den < 0)), .slice A4 (dg (q.num * p.den).natAbs).length c4]] (by rfl) rfl rfl (by (try simp only [List.map_toArray, List.map_cons, List.map_nil]); first | done | rfl) ?_
      refine (hA.out W25 A3 c3 A4 c4 Q3.out Q4.out).mono ?_
      rintro e W26 ⟨A5, c5, rfl, q1, q2, q3⟩
      refine ⟨_, rfl, ?_⟩
      replace HF := Lib.hid (HF.out.below q3)
      replace Q1 := Lib.hid (Q1.out.below q3)
      replace Q2 := Lib.hid (Q2.out.below q3)
      have Q5 := Lib.hid (In.dg q2 q1)
      clear q1 q2 q3 Q3 Q4
      refine hK.out _ _ ⟨HF.out.cellN 2 rfl 0 rfl, HF.out.cellN 2 rfl 1 rfl, HF.out.cellN 2 rfl 2 rfl, HF.out.cellN 1 rfl 0 rfl, HF.out.cellN 1 rfl 1 rfl, HF.out.cellN 1 rfl 2 rfl⟩ (fun hHeld => ?_)
      clear hK K
      refine norm_ (a' := ?_) ?_ ?_
      rotate_left
      · show Act.put _ (some 22) _ = _
        simp only [Act.put, s1, s2, s3]; rfl
      refine one_ (i := 14) (N := none) #[true, true, true, true, true, true, true, true, true, true, true, true, true, true, true] rfl rfl (by kernel_rfl) (by decide) (fun K hK => ?_)
      have hf0 := HF.out.frozenN 3 rfl 0
      have hf1 := HF.out.frozenN 3 rfl 1
      have hd0 := HF.out.cellN 3 rfl 0 rfl
      have hd1 := HF.out.cellN 3 rfl 1 rfl
      refine skip_ (w1 := ?_) (by rfl) rfl ?_ ?_
      rotate_left
      · go_simp
        rfl
      replace Q1 := Lib.hid (Q1.out.put2 (HF.out.ownN 3 rfl) (by simp) (a := .bool (decide (p.num * q.den + q.num * p.den < 0))) (by simp) (.slice A5 (dg (p.num * q.den + q.num * p.den).natAbs).length c5))
      replace Q2 := Lib.hid (Q2.out.put2 (HF.out.ownN 3 rfl) (by simp) (a := .bool (decide (p.num * q.den + q.num * p.den < 0))) (by simp) (.slice A5 (dg (p.num * q.den + q.num * p.den).natAbs).length c5))
      replace Q5 := Lib.hid (Q5.out.put2 (HF.out.ownN 3 rfl) (by simp) (a := .bool (decide (p.num * q.den + q.num * p.den < 0))) (by simp) (.slice A5 (dg (p.num * q.den + q.num * p.den).natAbs).length c5))
      replace HF := Lib.hid (HF.out.put2 3 rfl (by omega) (by simp; omega) (.bool (decide (p.num * q.den + q.num * p.den < 0))) (.slice A5 (dg (p.num * q.den + q.num * p.den).natAbs).length c5))
      refine hK.out _ _ ⟨HF.out.cellN 2 rfl 0 rfl, HF.out.cellN 2 rfl 1 rfl, HF.out.cellN 2 rfl 2 rfl, HF.out.cellN 1 rfl 0 rfl, HF.out.cellN 1 rfl 1 rfl, HF.out.cellN 1 rfl 2 rfl⟩ (fun hHeld => ?_)
      clear hK K
      exact hcont (g, (A3, c3), (A4, c4), A5, c5) _ ⟨hgw, HF.out, Q1.out, Q2.out, Q5.out⟩
  rintro ⟨g, ⟨A3, c3⟩, ⟨A4, c4⟩, A5, c5⟩ W ⟨hgw, hF_, q1, q2, q3⟩
  clear hHeld
  refine norm_ (a' := ?_) ?_ ?_
  rotate_left
  · show putAll _ _ = _
    simp only [putAll, Act.put, s1, s2, s3]; rfl
  refine done_ (by kernel_rfl) ?_
  have HF := Lib.hid hF_
  have Q1 := Lib.hid q1
  have Q2 := Lib.hid q2
  have Q5 := Lib.hid q3
  clear hF_ q1 q2 q3
  go_wp2_with fail
  replace Q1 := Lib.hid (Q1.out.below (Below.drew (Below.refl _ _)))
  replace Q2 := Lib.hid (Q2.out.below (Below.drew (Below.refl _ _)))
  replace Q5 := Lib.hid (Q5.out.below (Below.drew (Below.refl _ _)))
  have HF_ := Lib.hid HF.out.drew
  clear HF
  have HF := HF_
  clear HF_
  refine start_ (n := 9) (S := fun w' => w'.cell? ⟨w.heap.size, 0, none⟩ = some (.bool (decide (p.num < 0))) ∧ w'.cell? ⟨w.heap.size, 1, none⟩ = some (.slice A1 (dg p.num.natAbs).length c1) ∧ w'.cell? ⟨w.heap.size, 2, none⟩ = some (.slice B1 (dg p.den).length d1) ∧ w'.cell? ⟨w.heap.size + 1, 0, none⟩ = some (.bool (decide (q.num < 0))) ∧ w'.cell? ⟨w.heap.size + 1, 1, none⟩ = some (.slice A2 (dg q.num.natAbs).length c2) ∧ w'.cell? ⟨w.heap.size + 1, 2, none⟩ = some (.slice B2 (dg q.den).length d2) ∧ w'.cell? ⟨g, 0, none⟩ = some (.bool (decide (p.num * q.den + q.num * p.den < 0))) ∧ w'.cell? ⟨g, 1, none⟩ = some (.slice A5 (dg (p.num * q.den + q.num * p.den).natAbs).length c5)) (ds := []) #[false, false, false, false, false, false, false, false, false] (by kernel_rfl) rfl rfl ⟨HF.out.cellN 2 rfl 0 rfl, HF.out.cellN 2 rfl 1 rfl, HF.out.cellN 2 rfl 2 rfl, HF.out.cellN 1 rfl 0 rfl, HF.out.cellN 1 rfl 1 rfl, HF.out.cellN 1 rfl 2 rfl, HF.out.cellN 3 rfl 0 rfl, HF.out.cellN 3 rfl 1 rfl⟩ (fun hHeld => ?_)
  generalize World.drew _ = W at *
  refine pu_ (v := ?_) (a' := ?_) 1 (some 24) rfl rfl ?_ ?_ ?_
  rotate_left; · intro w'; go_simp; with_reducible rfl
  rotate_left; · simp only [Act.put, s1, s2, s3]; rfl
  refine pu_ (v := ?_) (a' := ?_) 3 (some 26) rfl rfl ?_ ?_ ?_
  rotate_left; · intro w'; go_simp; with_reducible rfl
  rotate_left; · simp only [Act.put, s1, s2, s3]; rfl
  refine tk_ (v := ?_) (a' := ?_) 0 (some 23) rfl rfl ?_ hHeld ?_ ?_
  rotate_left
  · rintro w' ⟨s0, s1, s2, s3, s4, s5, s6, s7⟩; go_simp; with_reducible rfl
  rotate_left; · simp only [Act.put, s1, s2, s3]; rfl
  refine tk_ (v := ?_) (a' := ?_) 2 (some 25) rfl rfl ?_ hHeld ?_ ?_
  rotate_left
  · rintro w' ⟨s0, s1, s2, s3, s4, s5, s6, s7⟩; go_simp; with_reducible rfl
  rotate_left; · simp only [Act.put, s1, s2, s3]; rfl
  refine tk_ (v := ?_) (a' := ?_) 4 (some 27) rfl rfl ?_ hHeld ?_ ?_
  rotate_left
  · rintro w' ⟨s0, s1, s2, s3, s4, s5, s6, s7⟩; go_simp; with_reducible rfl
  rotate_left; · simp only [Act.put, s1, s2, s3]; rfl
  refine on_ 5 (N := (some 28)) rfl rfl (fun K hK => ?_)
  refine goes_ Tryz.func192 (by kernel_rfl) rfl #[.slice B1 (dg p.den).length d1, .slice B2 (dg q.den).length d2] (by rfl) rfl rfl (by (try simp only [List.map_toArray, List.map_cons, List.map_nil]); first | done | rfl) ?_
  refine (hD.out W A1 c1 B1 d1 A2 c2 B2 d2 Q1.out Q2.out).mono ?_
  rintro e W1 ⟨A6, c6, rfl, q1, q3⟩
  refine ⟨_, rfl, ?_⟩
  replace HF := Lib.hid (HF.out.below q3)
  replace Q5 := Lib.hid (Q5.out.below q3)
  have Q6 := Lib.hid q1
  clear q1 q3 Q1 Q2
  refine hK.out _ _ ⟨HF.out.cellN 2 rfl 0 rfl, HF.out.cellN 2 rfl 1 rfl, HF.out.cellN 2 rfl 2 rfl, HF.out.cellN 1 rfl 0 rfl, HF.out.cellN 1 rfl 1 rfl, HF.out.cellN 1 rfl 2 rfl, HF.out.cellN 3 rfl 0 rfl, HF.out.cellN 3 rfl 1 rfl⟩ (fun hHeld => ?_)
  clear hK K
  refine norm_ (a' := ?_) ?_ ?_
  rotate_left
  · show Act.put _ (some 28) _ = _
    simp only [Act.put, s1, s2, s3]; rfl
  refine pu_ (v := ?_) (a' := ?_) 6 (some 29) rfl rfl ?_ ?_ ?_
  rotate_left; · intro w'; go_simp; with_reducible rfl
  rotate_left; · simp only [Act.put, s1, s2, s3]; rfl
  refine on_ 7 (N := (some 30)) rfl rfl (fun K hK => ?_)
  refine goes_ Tryz.func91 (by kernel_rfl) rfl #[.agg #[.bool (decide (p.num * q.den + q.num * p.den < 0)), .slice A5 (dg (p.num * q.den + q.num * p.den).natAbs).length c5, .slice A6 (dg (p.den * q.den)).length c6]] (by rfl) rfl rfl (by (try simp only [List.map_toArray, List.map_cons, List.map_nil]); first | done | rfl) ?_
  refine (hG.out W1 A5 c5 A6 c6 Q5.out Q6.out).mono ?_
  rintro e W2 ⟨A7, c7, A8, c8, rfl, q1, q2, q3⟩
  refine ⟨_, rfl, ?_⟩
  replace HF := Lib.hid (HF.out.below q3)
  replace Q5 := Lib.hid q1
  replace Q6 := Lib.hid q2
  clear q1 q2 q3
  refine hK.out _ _ ⟨HF.out.cellN 2 rfl 0 rfl, HF.out.cellN 2 rfl 1 rfl, HF.out.cellN 2 rfl 2 rfl, HF.out.cellN 1 rfl 0 rfl, HF.out.cellN 1 rfl 1 rfl, HF.out.cellN 1 rfl 2 rfl, HF.out.cellN 3 rfl 0 rfl, HF.out.cellN 3 rfl 1 rfl⟩ (fun hHeld => ?_)
  clear hK K
  refine norm_ (a' := ?_) ?_ ?_
  rotate_left
  · show Act.put _ (some 30) _ = _
    simp only [Act.put, s1, s2, s3]; rfl
  refine on_ 8 (N := none) rfl rfl (fun K hK => ?_)
  have hf0 := HF.out.frozenN 0 rfl 0
  have hf1 := HF.out.frozenN 0 rfl 1
  have hf2 := HF.out.frozenN 0 rfl 2
  have hd0 := HF.out.cellN 0 rfl 0 rfl
  have hd1 := HF.out.cellN 0 rfl 1 rfl
  have hd2 := HF.out.cellN 0 rfl 2 rfl
  refine skip_ (w1 := ?_) (by rfl) rfl ?_ ?_
  rotate_left
  · go_simp
    rfl
  have HE := Lib.hid (end_rat HF.out (by simp) (by simp) (by omega) Q5.out Q6.out rfl)
  replace HF := Lib.hid (HF.out.put3 0 rfl (by omega) (by simp; omega) (.bool (decide (r.num < 0))) (.slice A7 (dg r.num.natAbs).length c7) (.slice A8 (dg r.den).length c8))
  refine hK.out _ _ ⟨HF.out.cellN 2 rfl 0 rfl, HF.out.cellN 2 rfl 1 rfl, HF.out.cellN 2 rfl 2 rfl, HF.out.cellN 1 rfl 0 rfl, HF.out.cellN 1 rfl 1 rfl, HF.out.cellN 1 rfl 2 rfl, HF.out.cellN 3 rfl 0 rfl, HF.out.cellN 3 rfl 1 rfl⟩ (fun hHeld => ?_)
  clear hK K
  refine done_ (by kernel_rfl) ?_
  generalize decide (r.num < 0) = b at HE ⊢
  go_wp2
  obtain ⟨f1, f2⟩ := HE.out
  exact post_own f2 rfl rfl rfl Tryz.underlying43 rfl (by kernel_rfl) f1
end Go.Proofs.YtidgpkccjcddgaaGreatDoor.F
/- The walks of the reference's layer 3, fourth part: Sign, Whole. -/
namespace Go.Proofs.YtidgpkccjcddgaaGreatDoor.F
open Go.RowKit Go.Shelf Go.Proofs.YtidgpkccjcddgaaGreatDoorW.PrintLast
set_option maxHeartbeats 1000000 in
set_option maxRecDepth 100000 in
theorem r3_Sign (s : Bool) (A : Option Addr) (c : Nat) (xs : List Int) (B : Option Addr) (d : Nat) (ys : List Int) (w : World) (h : In w A c xs) (hm : xs.length ≤ 549755813888) (k : In w B d ys) (km : ys.length ≤ 549755813888) :
    Calls Tryz.prog 86 #[.agg #[.bool s, .slice A xs.length c, .slice B ys.length d]] w fun e w' => e = .returned (.int .i64 (sgn (rv s xs ys).num)) ∧ Below w.heap.size w w' := by
  have hN := Lib.hid (fun (W : World) (hb : Below w.heap.size w W) => r3_Norm s A c xs B d ys W (h.below hb) hm (k.below hb) km)
  have hl := (rv_len s h.lim k.lim).1
  generalize rv s xs ys = q at *
  have hS := Lib.hid (fun (W : World) (A' : Option Addr) (c' : Nat) (hr : In W A' c' (dg q.num.natAbs)) => r2_Sign (decide (q.num < 0)) A' c' _ W hr (by omega))
  rw [iv_can] at hS
  clear h k hl
  have HF := Lib.hid ((Fr.refl w).box [.bool s, .slice A xs.length c, .slice B ys.length d] 43)
  rw [show [Value.bool s, Value.slice A xs.length c, Value.slice B ys.length d].toArray = #[Value.bool s, Value.slice A xs.length c, Value.slice B ys.length d] from rfl] at HF
  go_enter Tryz.func86, Tryz.ntmps86
  go_wp2_with fail
  refine (hN.out _ HF.out.bel).mono ?_
  rintro e W1 ⟨A2, c2, B2, d2, rfl, q1, q2, q3⟩
  replace HF := Lib.hid (HF.out.below q3)
  have Q1 := Lib.hid q1
  clear q1 q2 q3
  have hnum := run_num
  go_wp2_with fail
  refine (hS.out W1 A2 c2 Q1.out).mono ?_
  rintro e W2 ⟨rfl, hb⟩
  replace HF := Lib.hid (HF.out.below hb)
  clear hb
  go_wp2
  go_ret
  exact ⟨rfl, HF.out.bel⟩
set_option maxHeartbeats 1000000 in
set_option maxRecDepth 100000 in
theorem r3_Whole (n : Int) (w : World) (h0 : -9223372036854775808 ≤ n) (h1 : n ≤ 9223372036854775807) :
    Calls Tryz.prog 34 #[.int .i64 n] w fun e w' => ToldQ w (n : Rat) e w' := by
  obtain ⟨q, hq0⟩ : ∃ q : Rat, q = (n : Rat) := ⟨_, rfl⟩
  rw [← hq0]
  have HQ0 := Lib.hid hq0
  clear hq0
  have hO := Lib.hid (fun (W : World) => r2_Of n W h0 h1)
  have HF := Lib.hid ((Fr.refl w).box [.bool false, .slice none 0 0, .slice none 0 0] 43)
  go_enter Tryz.func34, Tryz.ntmps34
  go_wp2_with fail
  refine (hO.out _).mono ?_
  rintro e W1 ⟨A1, c1, rfl, q1, q2, q3⟩
  replace HF := Lib.hid (HF.out.below q3)
  have Q1 := Lib.hid (In.dg q2 q1)
  clear q1 q2 q3
  have HG := Lib.hid (HF.out.box [.int .u32 1] 133)
  have hal := Lib.hid ((Below.refl _ W1).alloc (Nat.le_refl _) (.cells #[.int .u32 1] 133))
  have hlen : (dg n.natAbs).length ≤ 549755813888 := by
    have h2 : (dg n.natAbs).length ≤ 2 := dg_length_le (by show _ < (4294967296 : Int) ^ 2; omega)
    omega
  have hN := Lib.hid (r3_Norm (decide (n < 0)) A1 c1 (dg n.natAbs) (some ⟨W1.heap.size, 0, none⟩) 1 [1] (W1.alloc (.cells #[.int .u32 1] 133)) (Q1.out.below hal.out) hlen (In.one (HG.out.cellN 0 rfl 0 rfl) (by omega) (by omega)) (by simp))
  have hq : rv (decide (n < 0)) (dg n.natAbs) [1] = (n : Rat) := by
    unfold rv; rw [iv_can]; show mkRat n 1 = _; exact Rat.mkRat_one n
  rw [hq, ← HQ0.out] at hN
  replace HF := Lib.hid (HF.out.alloc (.cells #[.int .u32 1] 133))
  clear hq hlen hal HG
  go_wp2_with fail
  refine hN.out.mono ?_
  rintro e W2 ⟨A2, c2, B2, d2, rfl, q1, q2, q3⟩
  replace HF := Lib.hid (HF.out.below q3)
  replace Q1 := Lib.hid q1
  have Q2 := Lib.hid q2
  clear q1 q2 q3 hN
  have hf0 := HF.out.frozenN 0 rfl 0
  have hf1 := HF.out.frozenN 0 rfl 1
  have hf2 := HF.out.frozenN 0 rfl 2
  have hd0 := HF.out.cellN 0 rfl 0 rfl
  have hd1 := HF.out.cellN 0 rfl 1 rfl
  have hd2 := HF.out.cellN 0 rfl 2 rfl
  have HE := Lib.hid (end_rat HF.out (by simp) (by simp) (by omega) Q1.out Q2.out rfl)
  generalize decide (q.num < 0) = b at HE ⊢
  go_wp2
  obtain ⟨f1, f2⟩ := HE.out
  exact post_own f2 rfl rfl rfl Tryz.underlying43 rfl (by kernel_rfl) f1
end Go.Proofs.YtidgpkccjcddgaaGreatDoor.F

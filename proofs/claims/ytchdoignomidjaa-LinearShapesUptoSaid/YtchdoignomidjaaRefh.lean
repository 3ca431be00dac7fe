/- The walks of the reference's layer 2, second part: Of, Sign, Mul, Add. -/
import Derived.Test.YtchdoignomidjaaRefg
set_option linter.unusedVariables false
set_option linter.unusedSimpArgs false
namespace Go.Proofs.Ytchdoignomidjaa.F
open Go.RowKit Go.Shelf Go.Proofs.YtchdoignomidjaaW.PrintLast

set_option maxHeartbeats 1000000 in
set_option maxRecDepth 100000 in
theorem r2_Of (n : Int) (w : World) (h0 : -9223372036854775808 ≤ n) (h1 : n ≤ 9223372036854775807) :
    Calls Try.prog 78 #[.int .i64 n] w fun e w' => ToldI w n e w' := by
  have HF := Lib.hid ((Fr.refl w).box [.bool false, .slice none 0 0] 29)
  have hO := Lib.hid (fun (W : World) => (r1_Of (n.natAbs : Int) W (by omega) (by omega)).mono fun e w' hh => Told.nat hh)
  have hlen : (dg n.natAbs).length ≤ 2199023255552 := by
    have h2 : (dg n.natAbs).length ≤ 2 := dg_length_le (by show _ < (4294967296 : Int) ^ 2; omega)
    omega
  have hN := Lib.hid (fun (W : World) (A' : Option Addr) (c' : Nat) (hr : In W A' c' (dg n.natAbs)) => r2_made (decide (n < 0)) A' c' (dg n.natAbs) W hr hlen n (iv_can n).symm)
  clear hlen
  by_cases hn : n < 0
  · have e1 : IntKind.u64.wrap n = n + 18446744073709551616 := by rw [IntKind.wrap_u64]; omega
    have e2 : IntKind.u64.wrap (0 - (n + 18446744073709551616)) = (n.natAbs : Int) := by rw [IntKind.wrap_u64]; omega
    have e3 : IntKind.u64.wrap (-(n + 18446744073709551616)) = (n.natAbs : Int) := by rw [IntKind.wrap_u64]; omega
    rw [decide_eq_true hn] at hN
    go_enter Try.func78, Try.ntmps78
    go_wp2_with fail
    refine (hO.out _).mono ?_
    rintro e W1 ⟨A1, c1, rfl, q1, q2⟩
    replace HF := Lib.hid (HF.out.below q2)
    have Q1 := Lib.hid q1
    clear q1 q2 e1 e2 e3
    go_wp2_with fail
    refine (hN.out W1 A1 c1 Q1.out).mono ?_
    rintro e W2 ⟨A2, c2, rfl, r1, r2, r3⟩
    replace HF := Lib.hid (HF.out.below r3)
    have Q2 := Lib.hid r2
    clear r2 r3
    have hf0 := HF.out.frozenN 0 rfl 0
    have hf1 := HF.out.frozenN 0 rfl 1
    have hd0 := HF.out.cellN 0 rfl 0 rfl
    have hd1 := HF.out.cellN 0 rfl 1 rfl
    have HE := Lib.hid (end_int HF.out (by simp) (by simp) (by omega) r1 Q2.out rfl)
    generalize decide (n < 0) = b at HE ⊢
    go_wp2
    obtain ⟨f1, f2⟩ := HE.out
    exact post_own f2 rfl rfl rfl Try.underlying29 rfl (by kernel_rfl) f1
  · have e1 : IntKind.u64.wrap n = (n.natAbs : Int) := by rw [IntKind.wrap_u64]; omega
    rw [decide_eq_false hn] at hN
    go_enter Try.func78, Try.ntmps78
    go_wp2_with fail
    refine (hO.out _).mono ?_
    rintro e W1 ⟨A1, c1, rfl, q1, q2⟩
    replace HF := Lib.hid (HF.out.below q2)
    have Q1 := Lib.hid q1
    clear q1 q2 e1
    go_wp2_with fail
    refine (hN.out W1 A1 c1 Q1.out).mono ?_
    rintro e W2 ⟨A2, c2, rfl, r1, r2, r3⟩
    replace HF := Lib.hid (HF.out.below r3)
    have Q2 := Lib.hid r2
    clear r2 r3
    have hf0 := HF.out.frozenN 0 rfl 0
    have hf1 := HF.out.frozenN 0 rfl 1
    have hd0 := HF.out.cellN 0 rfl 0 rfl
    have hd1 := HF.out.cellN 0 rfl 1 rfl
    have HE := Lib.hid (end_int HF.out (by simp) (by simp) (by omega) r1 Q2.out rfl)
    generalize decide (n < 0) = b at HE ⊢
    go_wp2
    obtain ⟨f1, f2⟩ := HE.out
    exact post_own f2 rfl rfl rfl Try.underlying29 rfl (by kernel_rfl) f1

set_option maxHeartbeats 1000000 in
set_option maxRecDepth 100000 in
theorem r2_Mul (s : Bool) (A : Option Addr) (c : Nat) (xs : List Int) (t : Bool) (B : Option Addr) (d : Nat) (ys : List Int) (w : World) (h : In w A c xs) (hm : xs.length ≤ 549755813888) (k : In w B d ys) (km : ys.length ≤ 549755813888) :
    Calls Try.prog 75 #[.agg #[.bool s, .slice A xs.length c], .agg #[.bool t, .slice B ys.length d]] w fun e w' => ToldI w (iv s (V xs) * iv t (V ys)) e w' := by
  have hv := V_nonneg h.lim
  have ku := V_nonneg k.lim
  have hp := Int.mul_nonneg hv ku
  obtain ⟨p, hpe⟩ : ∃ p, p = (V xs * V ys).toNat := ⟨_, rfl⟩
  have hpv : V xs * V ys = (p : Int) := by omega
  have hM := Lib.hid (fun (W : World) (hb : Below w.heap.size w W) => (r1_Mul A c xs B d ys W (h.below hb) hm (k.below hb) km).mono fun e w' hh => Told.nat (n := p) (hpv ▸ hh))
  have hlp : (dg p).length ≤ 2199023255552 := by
    have h1 := iv_lt h.lim false
    have h2 := iv_lt k.lim false
    have h3 := dg_length_le (abs_mul_lt h1 h2)
    simp only [iv] at h3
    have h5 : ((if false = true then -V xs else V xs) * if false = true then -V ys else V ys) = V xs * V ys := rfl
    rw [h5, hpv, Int.natAbs_natCast] at h3
    omega
  have hN := Lib.hid (fun (W : World) (A' : Option Addr) (c' : Nat) (hr : In W A' c' (dg p)) => r2_made (s != t) A' c' (dg p) W hr hlp (iv s (V xs) * iv t (V ys)) (by
    rw [V_dg, ← hpv]
    cases s <;> cases t <;> simp [iv, Int.mul_neg, Int.neg_mul]))
  clear hlp h k hv ku hp hpe hpv
  generalize iv s (V xs) * iv t (V ys) = n at *
  have HF := Lib.hid ((((Fr.refl w).box [.bool s, .slice A xs.length c] 29).box [.bool t, .slice B ys.length d] 29).box [.bool false, .slice none 0 0] 29)
  have hsz : (w.alloc (.cells #[.bool s, .slice A xs.length c] 29)).heap.size = w.heap.size + 1 := by simp
  have hsz2 : ((w.alloc (.cells #[.bool s, .slice A xs.length c] 29)).alloc (.cells #[.bool t, .slice B ys.length d] 29)).heap.size = w.heap.size + 2 := by simp
  rw [show [Value.bool s, Value.slice A xs.length c].toArray = #[Value.bool s, Value.slice A xs.length c] from rfl, hsz, show [Value.bool t, Value.slice B ys.length d].toArray = #[Value.bool t, Value.slice B ys.length d] from rfl, hsz2] at HF
  clear hsz hsz2
  go_enter Try.func75, Try.ntmps75
  go_wp2_with fail
  generalize ((w.alloc (Obj.cells #[Value.bool s, Value.slice A xs.length c] 29)).alloc (Obj.cells #[Value.bool t, Value.slice B ys.length d] 29)).alloc (Obj.cells #[Value.bool false, Value.slice none 0 0] 29) = W at *
  have HF_ := Lib.hid HF.out.drew
  clear HF
  have HF := HF_
  clear HF_
  refine start_ (n := 12) (S := fun w' => w'.cell? ⟨w.heap.size, 0, none⟩ = some (.bool s) ∧ w'.cell? ⟨w.heap.size, 1, none⟩ = some (.slice A xs.length c) ∧ w'.cell? ⟨w.heap.size + 1, 0, none⟩ = some (.bool t) ∧ w'.cell? ⟨w.heap.size + 1, 1, none⟩ = some (.slice B ys.length d)) (ds := []) #[false, false, false, false, false, false, false, false, false, false, false, false] (by kernel_rfl) rfl rfl ⟨HF.out.cellN 2 rfl 0 rfl, HF.out.cellN 2 rfl 1 rfl, HF.out.cellN 1 rfl 0 rfl, HF.out.cellN 1 rfl 1 rfl⟩ (fun hHeld => ?_)
  generalize World.drew _ = W at *
  refine pure_ (i := 0) (N := (some 5)) (v := ?_) (a' := ?_) #[true, false, false, false, false, false, false, false, false, false, false, false] rfl rfl (by kernel_rfl) (fun _ _ _ h => h) (Or.inl ⟨by rfl, ?_⟩) ?_ ?_
  rotate_left
  · intro w'
    go_simp
    with_reducible rfl
  rotate_left
  · simp only [Act.put, List.setIfInBounds_toArray, List.set_cons_zero, List.set_cons_succ]
    rfl
  refine pure_ (i := 2) (N := (some 7)) (v := ?_) (a' := ?_) #[true, false, true, false, false, false, false, false, false, false, false, false] rfl rfl (by kernel_rfl) (fun _ _ _ h => h) (Or.inl ⟨by rfl, ?_⟩) ?_ ?_
  rotate_left
  · intro w'
    go_simp
    with_reducible rfl
  rotate_left
  · simp only [Act.put, List.setIfInBounds_toArray, List.set_cons_zero, List.set_cons_succ]
    rfl
  refine pure_ (i := 5) (N := (some 10)) (v := ?_) (a' := ?_) #[true, false, true, false, false, true, false, false, false, false, false, false] rfl rfl (by kernel_rfl) (fun _ _ _ h => h) (Or.inl ⟨by rfl, ?_⟩) ?_ ?_
  rotate_left
  · intro w'
    go_simp
    with_reducible rfl
  rotate_left
  · simp only [Act.put, List.setIfInBounds_toArray, List.set_cons_zero, List.set_cons_succ]
    rfl
  refine pure_ (i := 7) (N := (some 12)) (v := ?_) (a' := ?_) #[true, false, true, false, false, true, false, true, false, false, false, false] rfl rfl (by kernel_rfl) (fun _ _ _ h => h) (Or.inl ⟨by rfl, ?_⟩) ?_ ?_
  rotate_left
  · intro w'
    go_simp
    with_reducible rfl
  rotate_left
  · simp only [Act.put, List.setIfInBounds_toArray, List.set_cons_zero, List.set_cons_succ]
    rfl
  refine take_ (i := 1) (N := (some 6)) (v := ?_) (a' := ?_) #[true, true, true, false, false, true, false, true, false, false, false, false] rfl rfl (by kernel_rfl) (fun _ _ _ h => h) (Or.inl ⟨by rfl, ?_⟩) hHeld ?_ ?_
  rotate_left
  · rintro w' ⟨s0, s1, s2, s3⟩
    go_simp
    with_reducible rfl
  rotate_left
  · simp only [Act.put, List.setIfInBounds_toArray, List.set_cons_zero, List.set_cons_succ]
    rfl
  refine take_ (i := 3) (N := (some 8)) (v := ?_) (a' := ?_) #[true, true, true, true, false, true, false, true, false, false, false, false] rfl rfl (by kernel_rfl) (fun _ _ _ h => h) (Or.inl ⟨by rfl, ?_⟩) hHeld ?_ ?_
  rotate_left
  · rintro w' ⟨s0, s1, s2, s3⟩
    go_simp
    with_reducible rfl
  rotate_left
  · simp only [Act.put, List.setIfInBounds_toArray, List.set_cons_zero, List.set_cons_succ]
    rfl
  refine pure_ (i := 4) (N := (some 9)) (v := ?_) (a' := ?_) #[true, true, true, true, true, true, false, true, false, false, false, false] rfl rfl (by kernel_rfl) (fun _ _ _ h => h) (Or.inl ⟨by rfl, ?_⟩) ?_ ?_
  rotate_left
  · intro w'
    go_simp
    with_reducible rfl
  rotate_left
  · simp only [Act.put, List.setIfInBounds_toArray, List.set_cons_zero, List.set_cons_succ]
    rfl
  refine take_ (i := 6) (N := (some 11)) (v := ?_) (a' := ?_) #[true, true, true, true, true, true, true, true, false, false, false, false] rfl rfl (by kernel_rfl) (fun _ _ _ h => h) (Or.inl ⟨by rfl, ?_⟩) hHeld ?_ ?_
  rotate_left
  · rintro w' ⟨s0, s1, s2, s3⟩
    go_simp
    with_reducible rfl
  rotate_left
  · simp only [Act.put, List.setIfInBounds_toArray, List.set_cons_zero, List.set_cons_succ]
    rfl
  refine take_ (i := 8) (N := (some 13)) (v := ?_) (a' := ?_) #[true, true, true, true, true, true, true, true, true, false, false, false] rfl rfl (by kernel_rfl) (fun _ _ _ h => h) (Or.inl ⟨by rfl, ?_⟩) hHeld ?_ ?_
  rotate_left
  · rintro w' ⟨s0, s1, s2, s3⟩
    go_simp
    with_reducible rfl
  rotate_left
  · simp only [Act.put, List.setIfInBounds_toArray, List.set_cons_zero, List.set_cons_succ]
    rfl
  refine one_ (i := 9) (N := (some 14)) #[true, true, true, true, true, true, true, true, true, true, false, false] rfl rfl (by kernel_rfl) (by decide) (fun K hK => ?_)
  refine goes_ Try.func77 (by kernel_rfl) rfl #[.slice A xs.length c, .slice B ys.length d] (by rfl) rfl rfl (by (try simp only [List.map_toArray, List.map_cons, List.map_nil]); first | done | rfl) ?_
  refine (hM.out W HF.out.bel).mono ?_
  rintro e W1 ⟨A1, c1, rfl, q1, q3⟩
  refine ⟨_, rfl, ?_⟩
  replace HF := Lib.hid (HF.out.below q3)
  have Q1 := Lib.hid q1
  clear q1 q3
  refine hK.out _ _ ⟨HF.out.cellN 2 rfl 0 rfl, HF.out.cellN 2 rfl 1 rfl, HF.out.cellN 1 rfl 0 rfl, HF.out.cellN 1 rfl 1 rfl⟩ (fun hHeld => ?_)
  clear hK K
  refine norm_ (a' := ?_) ?_ ?_
  rotate_left
  · show Act.put _ (some 14) _ = _
    simp only [Act.put, List.setIfInBounds_toArray, List.set_cons_zero, List.set_cons_succ]
    rfl
  refine one_ (i := 10) (N := (some 15)) #[true, true, true, true, true, true, true, true, true, true, true, false] rfl rfl (by kernel_rfl) (by decide) (fun K hK => ?_)
  refine goes_ Try.func110 (by kernel_rfl) rfl #[.bool (s != t), .slice A1 (dg p).length c1] (by rfl) rfl rfl (by (try simp only [List.map_toArray, List.map_cons, List.map_nil]); first | done | rfl) ?_
  refine (hN.out W1 A1 c1 Q1.out).mono ?_
  rintro e W2 ⟨A2, c2, rfl, q4, q2, q3⟩
  refine ⟨_, rfl, ?_⟩
  replace HF := Lib.hid (HF.out.below q3)
  have Q2 := Lib.hid q2
  clear q2 q3
  refine hK.out _ _ ⟨HF.out.cellN 2 rfl 0 rfl, HF.out.cellN 2 rfl 1 rfl, HF.out.cellN 1 rfl 0 rfl, HF.out.cellN 1 rfl 1 rfl⟩ (fun hHeld => ?_)
  clear hK K
  refine norm_ (a' := ?_) ?_ ?_
  rotate_left
  · show Act.put _ (some 15) _ = _
    simp only [Act.put, List.setIfInBounds_toArray, List.set_cons_zero, List.set_cons_succ]
    rfl
  refine one_ (i := 11) (N := none) #[true, true, true, true, true, true, true, true, true, true, true, true] rfl rfl (by kernel_rfl) (by decide) (fun K hK => ?_)
  have hf0 := HF.out.frozenN 0 rfl 0
  have hf1 := HF.out.frozenN 0 rfl 1
  have hd0 := HF.out.cellN 0 rfl 0 rfl
  have hd1 := HF.out.cellN 0 rfl 1 rfl
  refine skip_ (w1 := ?_) (by rfl) rfl ?_ ?_
  rotate_left
  · go_simp
    rfl
  have HE := Lib.hid (end_int HF.out (by simp) (by simp) (by omega) q4 Q2.out rfl)
  replace HF := Lib.hid ((HF.out.set (by omega) (by simp) 0 (.bool (decide (n < 0)))).set (by omega) (by simp) 1 (.slice A2 (dg n.natAbs).length c2))
  refine hK.out _ _ ⟨HF.out.cellN 2 rfl 0 rfl, HF.out.cellN 2 rfl 1 rfl, HF.out.cellN 1 rfl 0 rfl, HF.out.cellN 1 rfl 1 rfl⟩ (fun hHeld => ?_)
  clear hK K
  refine done_ (by kernel_rfl) ?_
  generalize decide (n < 0) = b at HE ⊢
  go_wp2
  obtain ⟨f1, f2⟩ := HE.out
  exact post_own f2 rfl rfl rfl Try.underlying29 rfl (by kernel_rfl) f1
end Go.Proofs.Ytchdoignomidjaa.F

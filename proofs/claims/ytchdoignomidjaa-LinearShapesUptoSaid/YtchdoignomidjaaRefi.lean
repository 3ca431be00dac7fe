/- The walks of the reference's layer 2, third part: Add, Sign. -/
import Derived.Test.YtchdoignomidjaaRefh
set_option linter.unusedVariables false
set_option linter.unusedSimpArgs false
namespace Go.Proofs.Ytchdoignomidjaa.F
open Go.RowKit Go.Shelf Go.Proofs.YtchdoignomidjaaW.PrintLast

set_option maxHeartbeats 1000000 in
set_option maxRecDepth 100000 in
theorem r2_Add (s : Bool) (A : Option Addr) (c : Nat) (xs : List Int) (t : Bool) (B : Option Addr) (d : Nat) (ys : List Int) (w : World) (h : In w A c xs) (hm : xs.length ≤ 1099511627776) (k : In w B d ys) (km : ys.length ≤ 1099511627776) :
    Calls Try.prog 74 #[.agg #[.bool s, .slice A xs.length c], .agg #[.bool t, .slice B ys.length d]] w fun e w' => ToldI w (iv s (V xs) + iv t (V ys)) e w' := by
  have hv := V_nonneg h.lim
  have ku := V_nonneg k.lim
  obtain ⟨X, hX⟩ : ∃ X : Nat, V xs = (X : Int) := ⟨(V xs).toNat, by omega⟩
  obtain ⟨Y, hY⟩ : ∃ Y : Nat, V ys = (Y : Int) := ⟨(V ys).toNat, by omega⟩
  have hA := Lib.hid (fun (W : World) (hb : Below w.heap.size w W) => (r1_Add A c xs B d ys W (h.below hb) hm (k.below hb) km).mono fun e w' hh => Told.nat (n := X + Y) (by rw [Int.natCast_add, ← hX, ← hY]; exact hh))
  have hC := Lib.hid (fun (W : World) (hb : Below w.heap.size w W) => r1_Cmp A c xs B d ys W (h.below hb) (by omega) (k.below hb) (by omega))
  have hD1 := Lib.hid (fun (W : World) (hb : Below w.heap.size w W) (hle : Y ≤ X) => (r1_Sub A c xs B d ys W (h.below hb) hm (k.below hb) km (by omega)).mono (R' := fun e w' => ∃ A' c', e = .returned (.tuple #[.slice A' (dg (X - Y)).length c', .int .i64 0]) ∧ In w' A' c' (dg (X - Y)) ∧ Below W.heap.size W w') fun e w' hh => by
    obtain ⟨A', c', h1, h2, h3, h4⟩ := hh
    rw [hX, hY, show ((X : Int) - (Y : Int)).toNat = X - Y by omega] at h1 h2 h3
    exact ⟨A', c', h1, In.dg h3 h2, h4⟩)
  have hD2 := Lib.hid (fun (W : World) (hb : Below w.heap.size w W) (hle : X ≤ Y) => (r1_Sub B d ys A c xs W (k.below hb) km (h.below hb) hm (by omega)).mono (R' := fun e w' => ∃ A' c', e = .returned (.tuple #[.slice A' (dg (Y - X)).length c', .int .i64 0]) ∧ In w' A' c' (dg (Y - X)) ∧ Below W.heap.size W w') fun e w' hh => by
    obtain ⟨A', c', h1, h2, h3, h4⟩ := hh
    rw [hX, hY, show ((Y : Int) - (X : Int)).toNat = Y - X by omega] at h1 h2 h3
    exact ⟨A', c', h1, In.dg h3 h2, h4⟩)
  have hlen : ∀ z : Nat, z ≤ X + Y → (dg z).length ≤ 2199023255552 := fun z hz => by
    have h1 := V_lt h.lim
    have h2 := V_lt k.lim
    have h3 : Bp xs.length ≤ Bp 1099511627776 := Bp_le hm
    have h4 : Bp ys.length ≤ Bp 1099511627776 := Bp_le km
    have h5 := Bp_succ 1099511627776
    have h6 := Bp_pos 1099511627776
    have h7 : (dg z).length ≤ 1099511627776 + 1 := dg_length_le (by omega)
    omega
  have hN := Lib.hid (fun (W : World) (u : Bool) (A' : Option Addr) (c' z : Nat) (hr : In W A' c' (dg z)) (hz : z ≤ X + Y) (n : Int) (hn : n = iv u (z : Int)) => r2_made u A' c' (dg z) W hr (hlen z hz) n (by rw [V_dg]; exact hn))
  clear hlen h k hv ku
  obtain ⟨n, hn⟩ : ∃ n, n = iv s (V xs) + iv t (V ys) := ⟨_, rfl⟩
  rw [← hn]
  rw [hX, hY] at hn hC
  have HNE := Lib.hid hn
  clear hn hX hY
  have HF := Lib.hid ((((Fr.refl w).box [.bool s, .slice A xs.length c] 29).box [.bool t, .slice B ys.length d] 29).box [.bool false, .slice none 0 0] 29)
  have hsz : (w.alloc (.cells #[.bool s, .slice A xs.length c] 29)).heap.size = w.heap.size + 1 := by simp
  have hsz2 : ((w.alloc (.cells #[.bool s, .slice A xs.length c] 29)).alloc (.cells #[.bool t, .slice B ys.length d] 29)).heap.size = w.heap.size + 2 := by simp
  rw [show [Value.bool s, Value.slice A xs.length c].toArray = #[Value.bool s, Value.slice A xs.length c] from rfl, hsz, show [Value.bool t, Value.slice B ys.length d].toArray = #[Value.bool t, Value.slice B ys.length d] from rfl, hsz2] at HF
  clear hsz hsz2
  by_cases hst : s = t
  · subst hst
    have hn1 := Lib.hid (show n = iv s ((X + Y : Nat) : Int) from by rw [HNE.out]; cases s <;> simp [iv] <;> omega)
    go_enter Try.func74, Try.ntmps74
    go_wp2_with fail
    generalize ((w.alloc (Obj.cells #[Value.bool s, Value.slice A xs.length c] 29)).alloc (Obj.cells #[Value.bool s, Value.slice B ys.length d] 29)).alloc (Obj.cells #[Value.bool false, Value.slice none 0 0] 29) = W at *
    have HF_ := Lib.hid HF.out.drew
    clear HF
    have HF := HF_
    clear HF_
    refine start_ (n := 9) (S := fun w' => w'.cell? ⟨w.heap.size, 0, none⟩ = some (.bool s) ∧ w'.cell? ⟨w.heap.size, 1, none⟩ = some (.slice A xs.length c) ∧ w'.cell? ⟨w.heap.size + 1, 0, none⟩ = some (.bool s) ∧ w'.cell? ⟨w.heap.size + 1, 1, none⟩ = some (.slice B ys.length d)) (ds := []) #[false, false, false, false, false, false, false, false, false] (by kernel_rfl) rfl rfl ⟨HF.out.cellN 2 rfl 0 rfl, HF.out.cellN 2 rfl 1 rfl, HF.out.cellN 1 rfl 0 rfl, HF.out.cellN 1 rfl 1 rfl⟩ (fun hHeld => ?_)
    generalize World.drew _ = W at *
    refine pure_ (i := 0) (N := (some 14)) (v := ?_) (a' := ?_) #[true, false, false, false, false, false, false, false, false] rfl rfl (by kernel_rfl) (fun _ _ _ h => h) (Or.inl ⟨by rfl, ?_⟩) ?_ ?_
    rotate_left
    · intro w'
      go_simp
      with_reducible rfl
    rotate_left
    · simp only [Act.put, List.setIfInBounds_toArray, List.set_cons_zero, List.set_cons_succ]
      rfl
    refine pure_ (i := 2) (N := (some 16)) (v := ?_) (a' := ?_) #[true, false, true, false, false, false, false, false, false] rfl rfl (by kernel_rfl) (fun _ _ _ h => h) (Or.inl ⟨by rfl, ?_⟩) ?_ ?_
    rotate_left
    · intro w'
      go_simp
      with_reducible rfl
    rotate_left
    · simp only [Act.put, List.setIfInBounds_toArray, List.set_cons_zero, List.set_cons_succ]
      rfl
    refine pure_ (i := 4) (N := (some 18)) (v := ?_) (a' := ?_) #[true, false, true, false, true, false, false, false, false] rfl rfl (by kernel_rfl) (fun _ _ _ h => h) (Or.inl ⟨by rfl, ?_⟩) ?_ ?_
    rotate_left
    · intro w'
      go_simp
      with_reducible rfl
    rotate_left
    · simp only [Act.put, List.setIfInBounds_toArray, List.set_cons_zero, List.set_cons_succ]
      rfl
    refine take_ (i := 1) (N := (some 15)) (v := ?_) (a' := ?_) #[true, true, true, false, true, false, false, false, false] rfl rfl (by kernel_rfl) (fun _ _ _ h => h) (Or.inl ⟨by rfl, ?_⟩) hHeld ?_ ?_
    rotate_left
    · rintro w' ⟨s0, s1, s2, s3⟩
      go_simp
      with_reducible rfl
    rotate_left
    · simp only [Act.put, List.setIfInBounds_toArray, List.set_cons_zero, List.set_cons_succ]
      rfl
    refine take_ (i := 3) (N := (some 17)) (v := ?_) (a' := ?_) #[true, true, true, true, true, false, false, false, false] rfl rfl (by kernel_rfl) (fun _ _ _ h => h) (Or.inl ⟨by rfl, ?_⟩) hHeld ?_ ?_
    rotate_left
    · rintro w' ⟨s0, s1, s2, s3⟩
      go_simp
      with_reducible rfl
    rotate_left
    · simp only [Act.put, List.setIfInBounds_toArray, List.set_cons_zero, List.set_cons_succ]
      rfl
    refine take_ (i := 5) (N := (some 19)) (v := ?_) (a' := ?_) #[true, true, true, true, true, true, false, false, false] rfl rfl (by kernel_rfl) (fun _ _ _ h => h) (Or.inl ⟨by rfl, ?_⟩) hHeld ?_ ?_
    rotate_left
    · rintro w' ⟨s0, s1, s2, s3⟩
      go_simp
      with_reducible rfl
    rotate_left
    · simp only [Act.put, List.setIfInBounds_toArray, List.set_cons_zero, List.set_cons_succ]
      rfl
    refine one_ (i := 6) (N := (some 20)) #[true, true, true, true, true, true, true, false, false] rfl rfl (by kernel_rfl) (by decide) (fun K hK => ?_)
    refine goes_ Try.func111 (by kernel_rfl) rfl #[.slice A xs.length c, .slice B ys.length d] (by rfl) rfl rfl (by (try simp only [List.map_toArray, List.map_cons, List.map_nil]); first | done | rfl) ?_
    refine (hA.out W HF.out.bel).mono ?_
    rintro e W1 ⟨A1, c1, rfl, q1, q3⟩
    refine ⟨_, rfl, ?_⟩
    replace HF := Lib.hid (HF.out.below q3)
    have Q1 := Lib.hid q1
    clear q1 q3
    refine hK.out _ _ ⟨HF.out.cellN 2 rfl 0 rfl, HF.out.cellN 2 rfl 1 rfl, HF.out.cellN 1 rfl 0 rfl, HF.out.cellN 1 rfl 1 rfl⟩ (fun hHeld => ?_)
    clear hK K
    refine norm_ (a' := ?_) ?_ ?_
    rotate_left
    · show Act.put _ (some 20) _ = _
      simp only [Act.put, List.setIfInBounds_toArray, List.set_cons_zero, List.set_cons_succ]
      rfl
    refine one_ (i := 7) (N := (some 21)) #[true, true, true, true, true, true, true, true, false] rfl rfl (by kernel_rfl) (by decide) (fun K hK => ?_)
    refine goes_ Try.func110 (by kernel_rfl) rfl #[.bool s, .slice A1 (dg (X + Y)).length c1] (by rfl) rfl rfl (by (try simp only [List.map_toArray, List.map_cons, List.map_nil]); first | done | rfl) ?_
    refine (hN.out W1 s A1 c1 (X + Y) Q1.out (Nat.le_refl _) n hn1.out).mono ?_
    rintro e W2 ⟨A2, c2, rfl, q4, q2, q3⟩
    refine ⟨_, rfl, ?_⟩
    replace HF := Lib.hid (HF.out.below q3)
    have Q2 := Lib.hid q2
    clear q2 q3
    refine hK.out _ _ ⟨HF.out.cellN 2 rfl 0 rfl, HF.out.cellN 2 rfl 1 rfl, HF.out.cellN 1 rfl 0 rfl, HF.out.cellN 1 rfl 1 rfl⟩ (fun hHeld => ?_)
    clear hK K
    refine norm_ (a' := ?_) ?_ ?_
    rotate_left
    · show Act.put _ (some 21) _ = _
      simp only [Act.put, List.setIfInBounds_toArray, List.set_cons_zero, List.set_cons_succ]
      rfl
    refine one_ (i := 8) (N := none) #[true, true, true, true, true, true, true, true, true] rfl rfl (by kernel_rfl) (by decide) (fun K hK => ?_)
    have hf0 := HF.out.frozenN 0 rfl 0
    have hf1 := HF.out.frozenN 0 rfl 1
    have hd0 := HF.out.cellN 0 rfl 0 rfl
    have hd1 := HF.out.cellN 0 rfl 1 rfl
    refine skip_ (w1 := ?_) (by rfl) rfl ?_ ?_
    rotate_left
    · go_simp
      rfl
    have HE := Lib.hid (end_int HF.out (by simp) (by simp) (by omega) q4 Q2.out rfl)
    replace HF := Lib.hid ((HF.out.set (by omega) (by simp) 0 (.bool (decide (n < 0)))).set (by omega) (by simp) 1 (.slice A2 (dg n.natAbs).length c2))
    refine hK.out _ _ ⟨HF.out.cellN 2 rfl 0 rfl, HF.out.cellN 2 rfl 1 rfl, HF.out.cellN 1 rfl 0 rfl, HF.out.cellN 1 rfl 1 rfl⟩ (fun hHeld => ?_)
    clear hK K
    refine done_ (by kernel_rfl) ?_
    generalize decide (n < 0) = b at HE ⊢
    go_wp2
    obtain ⟨f1, f2⟩ := HE.out
    exact post_own f2 rfl rfl rfl Try.underlying29 rfl (by kernel_rfl) f1
  · have hst2 : (s == t) = false := by simpa using hst
    have hsn : Hid (t = !s) := by show _ = _; cases s <;> cases t <;> simp_all
    have hn1 := Lib.hid (fun (hle : Y ≤ X) => show n = iv s ((X - Y : Nat) : Int) from by rw [HNE.out, hsn.out]; cases s <;> simp [iv] <;> omega)
    have hn2 := Lib.hid (fun (hle : X ≤ Y) => show n = iv t ((Y - X : Nat) : Int) from by rw [HNE.out, hsn.out]; cases s <;> simp [iv] <;> omega)
    clear hst
    go_enter Try.func74, Try.ntmps74
    go_wp2_with fail
    generalize ((w.alloc (Obj.cells #[Value.bool s, Value.slice A xs.length c] 29)).alloc (Obj.cells #[Value.bool t, Value.slice B ys.length d] 29)).alloc (Obj.cells #[Value.bool false, Value.slice none 0 0] 29) = W at *
    refine (hC.out W HF.out.bel).mono ?_
    rintro e W1 ⟨rfl, rfl⟩
    have hc0 := HF.out.cellN 2 rfl 0 rfl
    have hc1 := HF.out.cellN 2 rfl 1 rfl
    have hc2 := HF.out.cellN 1 rfl 0 rfl
    have hc3 := HF.out.cellN 1 rfl 1 rfl
    have hsg : 0 ≤ sgn ((X : Int) - (Y : Int)) ↔ Y ≤ X := by unfold sgn; repeat' split <;> omega
    generalize sgn ((X : Int) - (Y : Int)) = q at *
    by_cases hle : Y ≤ X
    · have hq : 0 ≤ q := hsg.2 hle
      clear hsg
      go_wp2_with fail
      refine (hD1.out W1 HF.out.bel hle).mono ?_
      rintro e W2 ⟨A1, c1, rfl, q1, q2⟩
      replace HF := Lib.hid (HF.out.below q2)
      have Q1 := Lib.hid q1
      clear q1 q2 hc0 hc1 hc2 hc3
      have hc0 := HF.out.cellN 2 rfl 0 rfl
      have hc2 := HF.out.cellN 1 rfl 0 rfl
      go_wp2_with fail
      refine (hN.out W2 s A1 c1 (X - Y) Q1.out (by omega) n (hn1.out hle)).mono ?_
      rintro e W3 ⟨A2, c2, rfl, r1, r2, r3⟩
      replace HF := Lib.hid (HF.out.below r3)
      have Q2 := Lib.hid r2
      clear r2 r3 hc0 hc2
      have hf0 := HF.out.frozenN 0 rfl 0
      have hf1 := HF.out.frozenN 0 rfl 1
      have hd0 := HF.out.cellN 0 rfl 0 rfl
      have hd1 := HF.out.cellN 0 rfl 1 rfl
      have HE := Lib.hid (end_int HF.out (by simp) (by simp) (by omega) r1 Q2.out rfl)
      generalize decide (n < 0) = b at HE ⊢
      go_wp2
      obtain ⟨f1, f2⟩ := HE.out
      exact post_own f2 rfl rfl rfl Try.underlying29 rfl (by kernel_rfl) f1
    · have hq : ¬ 0 ≤ q := fun h => hle (hsg.1 h)
      clear hsg
      go_wp2_with fail
      refine (hD2.out W1 HF.out.bel (by omega)).mono ?_
      rintro e W2 ⟨A1, c1, rfl, q1, q2⟩
      replace HF := Lib.hid (HF.out.below q2)
      have Q1 := Lib.hid q1
      clear q1 q2 hc0 hc1 hc2 hc3
      have hc0 := HF.out.cellN 2 rfl 0 rfl
      have hc2 := HF.out.cellN 1 rfl 0 rfl
      go_wp2_with fail
      refine (hN.out W2 t A1 c1 (Y - X) Q1.out (by omega) n (hn2.out (by omega))).mono ?_
      rintro e W3 ⟨A2, c2, rfl, r1, r2, r3⟩
      replace HF := Lib.hid (HF.out.below r3)
      have Q2 := Lib.hid r2
      clear r2 r3 hc0 hc2
      have hf0 := HF.out.frozenN 0 rfl 0
      have hf1 := HF.out.frozenN 0 rfl 1
      have hd0 := HF.out.cellN 0 rfl 0 rfl
      have hd1 := HF.out.cellN 0 rfl 1 rfl
      have HE := Lib.hid (end_int HF.out (by simp) (by simp) (by omega) r1 Q2.out rfl)
      generalize decide (n < 0) = b at HE ⊢
      go_wp2
      obtain ⟨f1, f2⟩ := HE.out
      exact post_own f2 rfl rfl rfl Try.underlying29 rfl (by kernel_rfl) f1

set_option maxHeartbeats 1000000 in
set_option maxRecDepth 100000 in
theorem r2_Sign (s : Bool) (A : Option Addr) (c : Nat) (xs : List Int) (w : World) (h : In w A c xs) (hm : xs.length ≤ 2199023255552) :
    Calls Try.prog 90 #[.agg #[.bool s, .slice A xs.length c]] w fun e w' => e = .returned (.int .i64 (sgn (iv s (V xs)))) ∧ Below w.heap.size w w' := by
  have hN := Lib.hid (fun (W : World) (hb : Below w.heap.size w W) => r2_Norm s A c xs W (h.below hb) hm)
  clear h
  generalize iv s (V xs) = n at *
  have HF := Lib.hid ((Fr.refl w).box [.bool s, .slice A xs.length c] 29)
  rw [show [Value.bool s, Value.slice A xs.length c].toArray = #[Value.bool s, Value.slice A xs.length c] from rfl] at HF
  have hl0 : (dg n.natAbs).length = 0 ↔ n = 0 := by rw [List.length_eq_zero_iff, dg_eq_nil]; omega
  obtain ⟨r, hr⟩ : ∃ r, r = sgn n := ⟨_, rfl⟩
  rw [← hr]
  have HRR := Lib.hid hr
  clear hr
  go_enter Try.func90, Try.ntmps90
  go_wp2_with fail
  refine (hN.out _ HF.out.bel).mono ?_
  rintro e W1 ⟨A1, c1, rfl, q1, q2, q3⟩
  replace HF := Lib.hid (HF.out.below q3)
  clear q1 q2 q3 hN
  have HB := Lib.hid HF.out.bel
  by_cases hn : n < 0
  · obtain rfl : r = -1 := by rw [HRR.out]; unfold sgn; rw [if_pos hn]
    clear HRR
    generalize hb : decide (n < 0) = b
    obtain rfl : b = true := by rw [← hb]; exact decide_eq_true hn
    clear hb hl0 hn
    go_wp2
    go_ret
    exact ⟨rfl, HB.out.alloc HB.out.size _⟩
  · generalize hb : decide (n < 0) = b
    obtain rfl : b = false := by rw [← hb]; exact decide_eq_false hn
    clear hb
    by_cases h0 : n = 0
    · have hz : ¬ 0 < (dg n.natAbs).length := by omega
      obtain rfl : r = 0 := by rw [HRR.out]; unfold sgn; rw [if_neg hn, if_neg (by omega)]
      clear HRR
      generalize (dg n.natAbs).length = L at *
      clear hl0 hn h0
      go_wp2
      go_ret
      exact ⟨rfl, HB.out.alloc HB.out.size _⟩
    · have hz : 0 < (dg n.natAbs).length := by omega
      obtain rfl : r = 1 := by rw [HRR.out]; unfold sgn; rw [if_neg hn, if_pos (by omega)]
      clear HRR
      generalize (dg n.natAbs).length = L at *
      clear hl0 hn h0
      go_wp2
      go_ret
      exact ⟨rfl, HB.out.alloc HB.out.size _⟩
end Go.Proofs.Ytchdoignomidjaa.F

/- The walks of package whole, third part: Of, Add. -/
import Derived.Test.YtchdoignomidjaaWholb
set_option linter.unusedVariables false
set_option linter.unusedSimpArgs false
namespace Go.Proofs.Ytchdoignomidjaa.F
open Go.RowKit Go.Shelf Go.Proofs.YtchdoignomidjaaW.PrintLast

set_option maxHeartbeats 1000000 in
set_option maxRecDepth 100000 in
theorem whole_Of (n : Int) (w : World) (h0 : -9223372036854775808 ≤ n) (h1 : n ≤ 9223372036854775807) :
    Calls Try.prog 106 #[.int .i64 n] w fun e w' => ToldI w n e w' := by
  have HF := Lib.hid ((Fr.refl w).box [.bool false, .slice none 0 0] 29)
  have hO := Lib.hid (fun (W : World) => nat_Of (if n < 0 then -n else n) W (by split <;> omega) (by split <;> omega))
  have hlen : (dg (if n < 0 then -n else n).toNat).length ≤ 1099511627776 := by
    have h2 : (dg (if n < 0 then -n else n).toNat).length ≤ 2 := dg_length_le (by show _ < (4294967296 : Int) ^ 2; split <;> omega)
    omega
  have habs : (if n < 0 then -n else n).toNat = n.natAbs := by split <;> omega
  have hN1 := Lib.hid (fun (W : World) (A' : Option Addr) (c' : Nat) (hr : Rn W A' (dg n.natAbs)) (hc : (dg n.natAbs).length ≤ c') (hn : n < 0) =>
    whole_signed A' c' (dg n.natAbs) (some ⟨W.heap.size, 0, none⟩) 1 [-1] (W.alloc (.cells #[.int .i64 (-1)] 3)) (Knd.Row.below ((Below.refl _ W).alloc (Nat.le_refl _) _) hr) (Lim_dg _) hc (by rw [← habs]; exact hlen)
      (Row.ints (Own.mk (w := W) [.int .i64 (-1)] 3)) (by simp) (by simp) (Sg.one (by omega)) n (by rw [pr_one, V_dg, if_pos (by omega)]; omega))
  have hN2 := Lib.hid (fun (W : World) (A' : Option Addr) (c' : Nat) (hr : Rn W A' (dg n.natAbs)) (hc : (dg n.natAbs).length ≤ c') (hn : 0 ≤ n) =>
    whole_signed A' c' (dg n.natAbs) none 0 [] W hr (Lim_dg _) hc (by rw [← habs]; exact hlen)
      (Knd.row_nil _ _ _) (by simp) (by simp) (fun i hi => by simp at hi) n (by rw [V_dg, if_neg (by simp [pr])]; omega))
  unfold Told at hO
  rw [habs] at hO
  clear habs hlen
  by_cases hn : n < 0
  · rw [if_pos hn] at hO
    have e1 : IntKind.u64.wrap n = n + 18446744073709551616 := by rw [IntKind.wrap_u64]; omega
    have e2 : IntKind.u64.wrap (-(n + 18446744073709551616)) = -n := by rw [IntKind.wrap_u64]; omega
    go_enter Try.func106, Try.ntmps106
    go_wp2_with fail
    refine (hO.out _).mono ?_
    rintro e W1 ⟨A1, c1, rfl, q1, q2, q3⟩
    replace HF := Lib.hid (HF.out.below q3)
    have Q2 := Lib.hid q2
    clear q2 q3
    replace HF := Lib.hid (HF.out.alloc (.cells #[.int .i64 (-1)] 3))
    go_wp2_with fail
    refine (hN1.out W1 A1 c1 Q2.out q1 hn).mono ?_
    rintro e W2 ⟨A2, c2, rfl, r1, r2, r3⟩
    replace HF := Lib.hid (HF.out.below r3)
    replace Q2 := Lib.hid r2
    clear r2 r3
    have hf0 := HF.out.frozenN 0 rfl 0
    have hf1 := HF.out.frozenN 0 rfl 1
    have hd0 := HF.out.cellN 0 rfl 0 rfl
    have hd1 := HF.out.cellN 0 rfl 1 rfl
    have HE := Lib.hid (end_int HF.out (by simp) (by simp) (by omega) r1 Q2.out rfl)
    generalize decide (n < 0) = b at HE ⊢
    go_wp2
    obtain ⟨f1, f2⟩ := HE.out
    exact post_own f2 rfl rfl rfl Try.underlying29 rfl (by kernel_rfl) f1
  · rw [if_neg hn] at hO
    have e1 : IntKind.u64.wrap n = n := by rw [IntKind.wrap_u64]; omega
    go_enter Try.func106, Try.ntmps106
    go_wp2_with fail
    refine (hO.out _).mono ?_
    rintro e W1 ⟨A1, c1, rfl, q1, q2, q3⟩
    replace HF := Lib.hid (HF.out.below q3)
    have Q2 := Lib.hid q2
    clear q2 q3
    go_wp2_with fail
    refine (hN2.out W1 A1 c1 Q2.out q1 (by omega)).mono ?_
    rintro e W2 ⟨A2, c2, rfl, r1, r2, r3⟩
    replace HF := Lib.hid (HF.out.below r3)
    replace Q2 := Lib.hid r2
    clear r2 r3
    have hf0 := HF.out.frozenN 0 rfl 0
    have hf1 := HF.out.frozenN 0 rfl 1
    have hd0 := HF.out.cellN 0 rfl 0 rfl
    have hd1 := HF.out.cellN 0 rfl 1 rfl
    have HE := Lib.hid (end_int HF.out (by simp) (by simp) (by omega) r1 Q2.out rfl)
    generalize decide (n < 0) = b at HE ⊢
    go_wp2
    obtain ⟨f1, f2⟩ := HE.out
    exact post_own f2 rfl rfl rfl Try.underlying29 rfl (by kernel_rfl) f1

theorem or_signs {m1 m2 : Int} (h1 : -1 ≤ m1 ∧ m1 ≤ 1) (h2 : -1 ≤ m2 ∧ m2 ≤ 1) : ∃ r1 r2, bits BinOp.or IntKind.i64 m1 m2 = r1 ∧ bits BinOp.or IntKind.i64 r1 1 = r2 ∧ (-1 ≤ r2 ∧ r2 ≤ 1) ∧ (r2 < 0 ↔ (m1 = -1 ∨ m2 = -1)) := by
  have h3 : m1 = -1 ∨ m1 = 0 ∨ m1 = 1 := by omega
  have h4 : m2 = -1 ∨ m2 = 0 ∨ m2 = 1 := by omega
  rcases h3 with rfl | rfl | rfl <;> rcases h4 with rfl | rfl | rfl <;> refine ⟨_, _, rfl, rfl, ?_, ?_⟩ <;> decide
theorem add1 {s t : Bool} {x y : Int} (hx : 0 ≤ x) (hy : 0 ≤ y) (hp : 0 ≤ sgn (iv s x) * sgn (iv t y)) : iv s x + iv t y = if sgn (iv s x) = -1 ∨ sgn (iv t y) = -1 then -(x + y) else x + y := by
  rcases Int.lt_or_eq_of_le hx with h2 | h2
  · rcases Int.lt_or_eq_of_le hy with h3 | h3
    · cases s <;> cases t <;> simp [iv, sgn, h2, h3, Int.not_lt.2 hx, Int.not_lt.2 hy] at hp ⊢ <;> omega
    · subst h3; cases s <;> cases t <;> simp [iv, sgn, h2, Int.not_lt.2 hx]
  · subst h2
    rcases Int.lt_or_eq_of_le hy with h3 | h3
    · cases s <;> cases t <;> simp [iv, sgn, h3, Int.not_lt.2 hy]
    · subst h3; cases s <;> cases t <;> simp [iv, sgn]
theorem add2 {s t : Bool} {x y : Int} (hx : 0 ≤ x) (hy : 0 ≤ y) (hp : sgn (iv s x) * sgn (iv t y) < 0) : (iv s x + iv t y = if sgn (iv s x) < 0 then -(x - y) else x - y) ∧ (iv s x + iv t y = if sgn (iv t y) < 0 then -(y - x) else y - x) := by
  rcases Int.lt_or_eq_of_le hx with h2 | h2
  · rcases Int.lt_or_eq_of_le hy with h3 | h3
    · cases s <;> cases t <;> simp [iv, sgn, h2, h3, Int.not_lt.2 hx, Int.not_lt.2 hy] at hp ⊢ <;> omega
    · subst h3; cases t <;> simp [iv, sgn] at hp
  · subst h2; cases s <;> simp [iv, sgn] at hp

set_option maxHeartbeats 1000000 in
set_option maxRecDepth 100000 in
theorem whole_Add (s : Bool) (A : Option Addr) (c : Nat) (xs : List Int) (t : Bool) (B : Option Addr) (d : Nat) (ys : List Int) (w : World) (h : In w A c xs) (hm : xs.length ≤ 549755813887) (k : In w B d ys) (km : ys.length ≤ 549755813887) :
    Calls Try.prog 97 #[.agg #[.bool s, .slice A xs.length c], .agg #[.bool t, .slice B ys.length d]] w fun e w' => ToldI w (iv s (V xs) + iv t (V ys)) e w' := by
  have hS := Lib.hid (fun (W : World) (hb : Below w.heap.size w W) => whole_Sign s A c xs W (h.below hb).row h.lim h.cap (by omega))
  have hT := Lib.hid (fun (W : World) (hb : Below w.heap.size w W) => whole_Sign t B d ys W (k.below hb).row k.lim k.cap (by omega))
  have HF := Lib.hid ((((Fr.refl w).box [.bool s, .slice A xs.length c] 29).box [.bool t, .slice B ys.length d] 29).box [.bool false, .slice none 0 0] 29)
  have hsz : (w.alloc (.cells #[.bool s, .slice A xs.length c] 29)).heap.size = w.heap.size + 1 := by simp
  have hsz2 : ((w.alloc (.cells #[.bool s, .slice A xs.length c] 29)).alloc (.cells #[.bool t, .slice B ys.length d] 29)).heap.size = w.heap.size + 2 := by simp
  rw [show [Value.bool s, Value.slice A xs.length c].toArray = #[Value.bool s, Value.slice A xs.length c] from rfl, hsz, show [Value.bool t, Value.slice B ys.length d].toArray = #[Value.bool t, Value.slice B ys.length d] from rfl, hsz2] at HF
  clear hsz hsz2
  have hA := Lib.hid (fun (W : World) (hb : Below w.heap.size w W) => nat_Add A c xs B d ys W (h.below hb).row h.lim h.cap (by omega) (k.below hb).row k.lim k.cap (by omega))
  have hC := Lib.hid (fun (W : World) (hb : Below w.heap.size w W) => nat_Cmp A c xs B d ys W (h.below hb).row h.lim h.cap (by omega) (k.below hb).row k.lim k.cap (by omega))
  have hD1 := Lib.hid (fun (W : World) (hb : Below w.heap.size w W) => nat_Sub A c xs B d ys W (h.below hb).row h.lim h.cap (by omega) (k.below hb).row k.lim k.cap (by omega))
  have hD2 := Lib.hid (fun (W : World) (hb : Below w.heap.size w W) => nat_Sub B d ys A c xs W (k.below hb).row k.lim k.cap (by omega) (h.below hb).row h.lim h.cap (by omega))
  have hG := Lib.hid (fun (W : World) (A' : Option Addr) (c' : Nat) (z r : Int) (hz : 0 ≤ z ∧ z ≤ V xs + V ys) (hr : Rn W A' (dg z.toNat)) (hc : (dg z.toNat).length ≤ c') (hr1 : -1 ≤ r ∧ r ≤ 1) (n : Int) (hn : n = if r < 0 then -z else z) =>
    whole_signed A' c' (dg z.toNat) (some ⟨W.heap.size, 0, none⟩) 1 [r] (W.alloc (.cells #[.int .i64 r] 3)) (Knd.Row.below ((Below.refl _ W).alloc (Nat.le_refl _) _) hr) (Lim_dg _) hc
      (by
        have h1 := V_lt h.lim
        have h2 := V_lt k.lim
        have h3 : Bp xs.length ≤ Bp (xs.length + ys.length) := Bp_le (by omega)
        have h4 : Bp ys.length ≤ Bp (xs.length + ys.length) := Bp_le (by omega)
        have h5 := Bp_succ (xs.length + ys.length)
        have h6 := Bp_pos (xs.length + ys.length)
        have h7 : (dg z.toNat).length ≤ xs.length + ys.length + 1 := dg_length_le (by omega)
        omega)
      (Row.ints (Own.mk (w := W) [.int .i64 r] 3)) (by simp) (by simp) (Sg.one hr1) n (by rw [pr_one, V_dg, hn]; congr 1 <;> omega))
  have hx0 := V_nonneg h.lim
  have hy0 := V_nonneg k.lim
  have hs1 := sgn_bound (iv s (V xs))
  have hs2 := sgn_bound (iv t (V ys))
  have ha1 := Lib.hid (add1 (s := s) (t := t) hx0 hy0)
  have ha2 := Lib.hid (add2 (s := s) (t := t) hx0 hy0)
  generalize iv s (V xs) + iv t (V ys) = n at *
  generalize sgn (iv s (V xs)) = m1 at *
  generalize sgn (iv t (V ys)) = m2 at *
  clear h k
  go_enter Try.func97, Try.ntmps97
  go_wp2_with fail
  generalize ((w.alloc (Obj.cells #[Value.bool s, Value.slice A xs.length c] 29)).alloc (Obj.cells #[Value.bool t, Value.slice B ys.length d] 29)).alloc (Obj.cells #[Value.bool false, Value.slice none 0 0] 29) = W at *
  have HF_ := Lib.hid HF.out.drew
  clear HF
  have HF := HF_
  clear HF_
  refine start_ (n := 6) (S := fun w' => w'.cell? ⟨w.heap.size, 0, none⟩ = some (.bool s) ∧ w'.cell? ⟨w.heap.size, 1, none⟩ = some (.slice A xs.length c) ∧ w'.cell? ⟨w.heap.size + 1, 0, none⟩ = some (.bool t) ∧ w'.cell? ⟨w.heap.size + 1, 1, none⟩ = some (.slice B ys.length d)) (ds := []) #[false, false, false, false, false, false] (by kernel_rfl) rfl rfl ⟨HF.out.cellN 2 rfl 0 rfl, HF.out.cellN 2 rfl 1 rfl, HF.out.cellN 1 rfl 0 rfl, HF.out.cellN 1 rfl 1 rfl⟩ (fun hHeld => ?_)
  generalize World.drew _ = W at *
  refine take_ (i := 0) (N := (some 11)) (v := ?_) (a' := ?_) #[true, false, false, false, false, false] rfl rfl (by kernel_rfl) (fun _ _ _ h => h) (Or.inl ⟨by rfl, ?_⟩) hHeld ?_ ?_
  rotate_left
  · rintro w' ⟨s0, s1, s2, s3⟩
    go_simp
    with_reducible rfl
  rotate_left
  · simp only [Act.put, List.setIfInBounds_toArray, List.set_cons_zero, List.set_cons_succ]
    rfl
  refine take_ (i := 2) (N := (some 13)) (v := ?_) (a' := ?_) #[true, false, true, false, false, false] rfl rfl (by kernel_rfl) (fun _ _ _ h => h) (Or.inl ⟨by rfl, ?_⟩) hHeld ?_ ?_
  rotate_left
  · rintro w' ⟨s0, s1, s2, s3⟩
    go_simp
    with_reducible rfl
  rotate_left
  · simp only [Act.put, List.setIfInBounds_toArray, List.set_cons_zero, List.set_cons_succ]
    rfl
  refine one_ (i := 1) (N := (some 12)) #[true, true, true, false, false, false] rfl rfl (by kernel_rfl) (by decide) (fun K hK => ?_)
  refine goes_ Try.func102 (by kernel_rfl) rfl #[.agg #[.bool s, .slice A xs.length c]] (by rfl) rfl rfl (by (try simp only [List.map_toArray, List.map_cons, List.map_nil]); first | done | rfl) ?_
  refine (hS.out W HF.out.bel).mono ?_
  rintro e W1 ⟨rfl, hb⟩
  refine ⟨_, rfl, ?_⟩
  replace HF := Lib.hid (HF.out.below hb)
  clear hb
  refine hK.out _ _ ⟨HF.out.cellN 2 rfl 0 rfl, HF.out.cellN 2 rfl 1 rfl, HF.out.cellN 1 rfl 0 rfl, HF.out.cellN 1 rfl 1 rfl⟩ (fun hHeld => ?_)
  clear hK K
  refine norm_ (a' := ?_) ?_ ?_
  rotate_left
  · show Act.put _ (some 12) _ = _
    simp only [Act.put, List.setIfInBounds_toArray, List.set_cons_zero, List.set_cons_succ]
    rfl
  refine one_ (i := 3) (N := (some 14)) #[true, true, true, true, false, false] rfl rfl (by kernel_rfl) (by decide) (fun K hK => ?_)
  refine goes_ Try.func102 (by kernel_rfl) rfl #[.agg #[.bool t, .slice B ys.length d]] (by rfl) rfl rfl (by (try simp only [List.map_toArray, List.map_cons, List.map_nil]); first | done | rfl) ?_
  refine (hT.out W1 HF.out.bel).mono ?_
  rintro e W2 ⟨rfl, hb⟩
  refine ⟨_, rfl, ?_⟩
  replace HF := Lib.hid (HF.out.below hb)
  clear hb
  refine hK.out _ _ ⟨HF.out.cellN 2 rfl 0 rfl, HF.out.cellN 2 rfl 1 rfl, HF.out.cellN 1 rfl 0 rfl, HF.out.cellN 1 rfl 1 rfl⟩ (fun hHeld => ?_)
  clear hK K
  refine norm_ (a' := ?_) ?_ ?_
  rotate_left
  · show Act.put _ (some 14) _ = _
    simp only [Act.put, List.setIfInBounds_toArray, List.set_cons_zero, List.set_cons_succ]
    rfl
  refine pure_ (i := 4) (N := (some 5)) (v := ?_) (a' := ?_) #[true, true, true, true, true, false] rfl rfl (by kernel_rfl) (fun _ _ _ h => h) (Or.inl ⟨by rfl, ?_⟩) ?_ ?_
  rotate_left
  · intro w'
    go_simp
    with_reducible rfl
  rotate_left
  · simp only [Act.put, List.setIfInBounds_toArray, List.set_cons_zero, List.set_cons_succ]
    rfl
  refine pure_ (i := 5) (N := (some 6)) (v := ?_) (a' := ?_) #[true, true, true, true, true, true] rfl rfl (by kernel_rfl) (fun _ _ _ h => h) (Or.inl ⟨by rfl, ?_⟩) ?_ ?_
  rotate_left
  · intro w'
    go_simp
    with_reducible rfl
  rotate_left
  · simp only [Act.put, List.setIfInBounds_toArray, List.set_cons_zero, List.set_cons_succ]
    rfl
  refine done_ (by kernel_rfl) ?_
  clear hS hT hHeld
  obtain ⟨p, hp⟩ : ∃ p, p = m1 * m2 := ⟨_, rfl⟩
  have hpb : -1 ≤ p ∧ p ≤ 1 := by
    have h8 : m1 = -1 ∨ m1 = 0 ∨ m1 = 1 := by omega
    rcases h8 with rfl | rfl | rfl <;> omega
  have hpw : IntKind.i64.wrap (m1 * m2) = p := by rw [← hp, i64w (by omega) (by omega)]
  have HP := Lib.hid hp
  clear hp
  have hc0 := HF.out.cellN 2 rfl 0 rfl
  have hc1 := HF.out.cellN 2 rfl 1 rfl
  have hc2 := HF.out.cellN 1 rfl 0 rfl
  have hc3 := HF.out.cellN 1 rfl 1 rfl
  by_cases hp0 : 0 ≤ p
  · go_wp2_with fail
    refine (hA.out W2 HF.out.bel).mono ?_
    rintro e W3 ⟨A1, c1, rfl, q1, q2, q3⟩
    replace HF := Lib.hid (HF.out.below q3)
    have Q2 := Lib.hid q2
    clear q2 q3
    obtain ⟨r1, r2, e1, e2, hr, hr2⟩ := or_signs hs1 hs2
    have HR := Lib.hid hr2
    have hn := Lib.hid (ha1.out (by rw [← HP.out]; exact hp0))
    clear hr2 ha1 ha2
    go_wp2_with fail
    replace HF := Lib.hid (HF.out.alloc (.cells #[.int .i64 r2] 3))
    refine (hG.out W3 A1 c1 (V xs + V ys) r2 ⟨by omega, by omega⟩ Q2.out q1 hr n (by rw [hn.out]; simp only [HR.out])).mono ?_
    rintro e W9 ⟨A2, c2, rfl, r4, r5, r3⟩
    replace HF := Lib.hid (HF.out.below r3)
    replace Q2 := Lib.hid r5
    clear r5 r3
    have hf0 := HF.out.frozenN 0 rfl 0
    have hf1 := HF.out.frozenN 0 rfl 1
    have hd0 := HF.out.cellN 0 rfl 0 rfl
    have hd1 := HF.out.cellN 0 rfl 1 rfl
    have HE := Lib.hid (end_int HF.out (by simp) (by simp) (by omega) r4 Q2.out rfl)
    generalize decide (n < 0) = b at HE ⊢
    go_wp2
    obtain ⟨f1, f2⟩ := HE.out
    exact post_own f2 rfl rfl rfl Try.underlying29 rfl (by kernel_rfl) f1
  · have hmm := ha2.out (by rw [← HP.out]; omega)
    have hn1 := Lib.hid hmm.1
    have hn2 := Lib.hid hmm.2
    clear hmm ha1 ha2
    go_wp2_with fail
    refine (hC.out W2 HF.out.bel).mono ?_
    rintro e W3 ⟨rfl, hb⟩
    replace HF := Lib.hid (HF.out.below hb)
    clear hb hc0 hc1 hc2 hc3
    have hc0 := HF.out.cellN 2 rfl 0 rfl
    have hc1 := HF.out.cellN 2 rfl 1 rfl
    have hc2 := HF.out.cellN 1 rfl 0 rfl
    have hc3 := HF.out.cellN 1 rfl 1 rfl
    have hsg : 0 ≤ sgn (V xs - V ys) ↔ V ys ≤ V xs := by unfold sgn; repeat' split <;> omega
    generalize sgn (V xs - V ys) = q at *
    by_cases hle : V ys ≤ V xs
    · have hq : 0 ≤ q := hsg.2 hle
      clear hsg
      go_wp2_with fail
      refine (hD1.out W3 HF.out.bel hle).mono ?_
      rintro e W4 ⟨A1, c1, rfl, q1, q2, q3⟩
      replace HF := Lib.hid (HF.out.below q3)
      have Q2 := Lib.hid q2
      clear q2 q3
      go_wp2_with fail
      replace HF := Lib.hid (HF.out.alloc (.cells #[.int .i64 m1] 3))
      refine (hG.out W4 A1 c1 (V xs - V ys) m1 ⟨by omega, by omega⟩ Q2.out q1 hs1 n hn1.out).mono ?_
      rintro e W9 ⟨A2, c2, rfl, r1, r2, r3⟩
      replace HF := Lib.hid (HF.out.below r3)
      replace Q2 := Lib.hid r2
      clear r2 r3
      have hf0 := HF.out.frozenN 0 rfl 0
      have hf1 := HF.out.frozenN 0 rfl 1
      have hd0 := HF.out.cellN 0 rfl 0 rfl
      have hd1 := HF.out.cellN 0 rfl 1 rfl
      have HE := Lib.hid (end_int HF.out (by simp) (by simp) (by omega) r1 Q2.out rfl)
      generalize decide (n < 0) = b at HE ⊢
      go_wp2
      obtain ⟨f1, f2⟩ := HE.out
      exact post_own f2 rfl rfl rfl Try.underlying29 rfl (by kernel_rfl) f1
    · have hq : ¬ 0 ≤ q := fun h => hle (hsg.1 h)
      clear hsg
      go_wp2_with fail
      refine (hD2.out W3 HF.out.bel (by omega)).mono ?_
      rintro e W4 ⟨A1, c1, rfl, q1, q2, q3⟩
      replace HF := Lib.hid (HF.out.below q3)
      have Q2 := Lib.hid q2
      clear q2 q3
      go_wp2_with fail
      replace HF := Lib.hid (HF.out.alloc (.cells #[.int .i64 m2] 3))
      refine (hG.out W4 A1 c1 (V ys - V xs) m2 ⟨by omega, by omega⟩ Q2.out q1 hs2 n hn2.out).mono ?_
      rintro e W9 ⟨A2, c2, rfl, r1, r2, r3⟩
      replace HF := Lib.hid (HF.out.below r3)
      replace Q2 := Lib.hid r2
      clear r2 r3
      have hf0 := HF.out.frozenN 0 rfl 0
      have hf1 := HF.out.frozenN 0 rfl 1
      have hd0 := HF.out.cellN 0 rfl 0 rfl
      have hd1 := HF.out.cellN 0 rfl 1 rfl
      have HE := Lib.hid (end_int HF.out (by simp) (by simp) (by omega) r1 Q2.out rfl)
      generalize decide (n < 0) = b at HE ⊢
      go_wp2
      obtain ⟨f1, f2⟩ := HE.out
      exact post_own f2 rfl rfl rfl Try.underlying29 rfl (by kernel_rfl) f1
end Go.Proofs.Ytchdoignomidjaa.F

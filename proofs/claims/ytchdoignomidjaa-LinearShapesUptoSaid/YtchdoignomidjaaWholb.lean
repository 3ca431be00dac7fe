/- The walks of package whole, second part: Norm, Neg, Of, Mul. -/
import Derived.Test.YtchdoignomidjaaFrame
set_option linter.unusedVariables false
set_option linter.unusedSimpArgs false
namespace Go.Proofs.Ytchdoignomidjaa.F
open Go.RowKit Go.Shelf Go.Proofs.YtchdoignomidjaaW.PrintLast

theorem sgn_bound (x : Int) : -1 ≤ sgn x ∧ sgn x ≤ 1 := by unfold sgn; split <;> (try split) <;> omega
theorem Sg.one {s : Int} (h : -1 ≤ s ∧ s ≤ 1) : Sg [s] := by
  intro i hi
  have : i = 0 := by simpa using hi
  subst this
  exact h
theorem Sg.two {s t : Int} (h : -1 ≤ s ∧ s ≤ 1) (k : -1 ≤ t ∧ t ≤ 1) : Sg [s, t] := by
  intro i hi
  have hi : i < 2 := by simpa using hi
  rcases i with _ | _ | i
  · exact h
  · exact k
  · omega
theorem Row.ints {k : IntKind} {w : World} {g : Nat} {xs : List Int} (h : Own w g (xs.map (Value.int k))) : (Knd.int k).Row w (some ⟨g, 0, none⟩) xs := by
  intro i hi
  refine ⟨⟨g, 0, none⟩, [.int k xs[i]], rfl, rfl, fun j u hu => ?_⟩
  cases j with
  | succ j => simp at hu
  | zero =>
    simp at hu
    subst hu
    have h1 := Own.cell h i (by simpa using hi)
    have e : (⟨g, 0, none⟩ : Addr).add (i * (Knd.int k).sz + 0) = ⟨g, i, none⟩ := by
      show (⟨g, 0, none⟩ : Addr).add (i * 1 + 0) = _
      unfold Addr.add
      split
      · rename_i h2; have : i = 0 := by omega
        subst this; rfl
      · simp
    rw [e, h1]
    simp
theorem pr_one (s : Int) : pr [s] = s := by simp [pr]
theorem pr_two (s t : Int) : pr [s, t] = s * t := by simp [pr]

set_option maxHeartbeats 1000000 in
set_option maxRecDepth 100000 in
theorem whole_Norm (s : Bool) (A : Option Addr) (c : Nat) (xs : List Int) (w : World) (h : Rn w A xs) (hl : Lim xs) (hc : xs.length ≤ c) (hm : xs.length ≤ 1099511627776) :
    Calls Try.prog 133 #[.agg #[.bool s, .slice A xs.length c]] w fun e w' => ToldI w (iv s (V xs)) e w' := by
  have hS := Lib.hid (fun (W : World) (hb : Below w.heap.size w W) => whole_Sign s A c xs W (h.below hb) hl hc hm)
  have hN := Lib.hid (fun (W : World) (m : Int) (hb : Below w.heap.size w W) (hm1 : -1 ≤ m ∧ m ≤ 1) (he : iv s (V xs) = if m < 0 then - V xs else V xs) =>
    whole_signed A c xs (some ⟨W.heap.size, 0, none⟩) 1 [m] (W.alloc (.cells #[.int .i64 m] 3)) (h.below (hb.alloc hb.size _)) hl hc hm
      (Row.ints (Own.mk (w := W) [.int .i64 m] 3)) (by simp) (by simp) (Sg.one hm1) (iv s (V xs)) (by rw [pr_one]; exact he))
  have hv := V_nonneg hl
  clear h hl hc
  generalize V xs = v at *
  have hsg := sgn_bound (iv s v)
  have hsx : Hid (iv s v = if sgn (iv s v) < 0 then -v else v) := by
    show _ = _
    unfold sgn iv
    cases s <;> simp <;> (repeat' split) <;> omega
  generalize iv s v = n at *
  generalize sgn n = m at *
  have HF := Lib.hid (((Fr.refl w).box [.bool s, .slice A xs.length c] 29).box [.bool false, .slice none 0 0] 29)
  have hsz : (w.alloc (.cells #[.bool s, .slice A xs.length c] 29)).heap.size = w.heap.size + 1 := by simp
  rw [show [Value.bool s, Value.slice A xs.length c].toArray = #[Value.bool s, Value.slice A xs.length c] from rfl, hsz] at HF
  clear hsz
  go_enter Try.func133, Try.ntmps133
  go_wp2_with fail
  generalize (w.alloc (Obj.cells #[Value.bool s, Value.slice A xs.length c] 29)).alloc (Obj.cells #[Value.bool false, Value.slice none 0 0] 29) = W at *
  have HF_ := Lib.hid HF.out.drew
  clear HF
  have HF := HF_
  clear HF_
  refine start_ (n := 7) (S := fun w' => w'.cell? ⟨w.heap.size, 0, none⟩ = some (.bool s) ∧ w'.cell? ⟨w.heap.size, 1, none⟩ = some (.slice A xs.length c)) (ds := []) #[false, false, false, false, false, false, false] (by kernel_rfl) rfl rfl ⟨HF.out.cellN 1 rfl 0 rfl, HF.out.cellN 1 rfl 1 rfl⟩ (fun hHeld => ?_)
  generalize World.drew _ = W at *
  refine pure_ (i := 0) (N := (some 3)) (v := ?_) (a' := ?_) #[true, false, false, false, false, false, false] rfl rfl (by kernel_rfl) (fun _ _ _ h => h) (Or.inl ⟨by rfl, ?_⟩) ?_ ?_
  rotate_left
  · intro w'
    go_simp
    with_reducible rfl
  rotate_left
  · simp only [Act.put, List.setIfInBounds_toArray, List.set_cons_zero, List.set_cons_succ]
    rfl
  refine take_ (i := 1) (N := (some 4)) (v := ?_) (a' := ?_) #[true, true, false, false, false, false, false] rfl rfl (by kernel_rfl) (fun _ _ _ h => h) (Or.inl ⟨by rfl, ?_⟩) hHeld ?_ ?_
  rotate_left
  · rintro w' ⟨s0, s1⟩
    go_simp
    with_reducible rfl
  rotate_left
  · simp only [Act.put, List.setIfInBounds_toArray, List.set_cons_zero, List.set_cons_succ]
    rfl
  refine take_ (i := 2) (N := (some 5)) (v := ?_) (a' := ?_) #[true, true, true, false, false, false, false] rfl rfl (by kernel_rfl) (fun _ _ _ h => h) (Or.inl ⟨by rfl, ?_⟩) hHeld ?_ ?_
  rotate_left
  · rintro w' ⟨s0, s1⟩
    go_simp
    with_reducible rfl
  rotate_left
  · simp only [Act.put, List.setIfInBounds_toArray, List.set_cons_zero, List.set_cons_succ]
    rfl
  refine one_ (i := 3) (N := (some 6)) #[true, true, true, true, false, false, false] rfl rfl (by kernel_rfl) (by decide) (fun K hK => ?_)
  refine goes_ Try.func102 (by kernel_rfl) rfl #[.agg #[.bool s, .slice A xs.length c]] (by rfl) rfl rfl (by (try simp only [List.map_toArray, List.map_cons, List.map_nil]); first | done | rfl) ?_
  refine (hS.out W HF.out.bel).mono ?_
  rintro e W1 ⟨rfl, hb⟩
  refine ⟨_, rfl, ?_⟩
  replace HF := Lib.hid (HF.out.below hb)
  clear hb
  refine hK.out _ _ ⟨HF.out.cellN 1 rfl 0 rfl, HF.out.cellN 1 rfl 1 rfl⟩ (fun hHeld => ?_)
  clear hK K
  refine norm_ (a' := ?_) ?_ ?_
  rotate_left
  · show Act.put _ (some 6) _ = _
    simp only [Act.put, List.setIfInBounds_toArray, List.set_cons_zero, List.set_cons_succ]
    rfl
  refine one_ (i := 4) (N := (some 7)) #[true, true, true, true, true, false, false] rfl rfl (by kernel_rfl) (by decide) (fun K hK => ?_)
  refine value_ (v := ?_) (w1 := ?_) (by rfl) rfl ?_ ?_
  rotate_left
  rotate_left
  · go_simp
    first | rfl | (refine ⟨?_, ?_⟩ <;> rfl)
  have HG := HF
  replace HF := Lib.hid (HF.out.alloc (.cells #[.int .i64 m] 3))
  refine hK.out _ _ ⟨HF.out.cellN 1 rfl 0 rfl, HF.out.cellN 1 rfl 1 rfl⟩ (fun hHeld => ?_)
  clear hK K
  refine norm_ (a' := ?_) ?_ ?_
  rotate_left
  · show Act.put _ (some 7) _ = _
    simp only [Act.put, List.setIfInBounds_toArray, List.set_cons_zero, List.set_cons_succ]
    rfl
  refine one_ (i := 5) (N := (some 8)) #[true, true, true, true, true, true, false] rfl rfl (by kernel_rfl) (by decide) (fun K hK => ?_)
  refine goes_ Try.func130 (by kernel_rfl) rfl #[.slice A xs.length c, .slice (some ⟨W1.heap.size, 0, none⟩) 1 1] (by rfl) rfl rfl (by (try simp only [List.map_toArray, List.map_cons, List.map_nil]); first | done | rfl) ?_
  refine (hN.out W1 m HG.out.bel hsg hsx.out).mono ?_
  rintro e W2 ⟨A2, c2, rfl, q1, q2, q3⟩
  refine ⟨_, rfl, ?_⟩
  replace HF := Lib.hid (HF.out.below q3)
  have Q2 := Lib.hid q2
  clear q2 q3 HG
  refine hK.out _ _ ⟨HF.out.cellN 1 rfl 0 rfl, HF.out.cellN 1 rfl 1 rfl⟩ (fun hHeld => ?_)
  clear hK K
  refine norm_ (a' := ?_) ?_ ?_
  rotate_left
  · show Act.put _ (some 8) _ = _
    simp only [Act.put, List.setIfInBounds_toArray, List.set_cons_zero, List.set_cons_succ]
    rfl
  refine one_ (i := 6) (N := none) #[true, true, true, true, true, true, true] rfl rfl (by kernel_rfl) (by decide) (fun K hK => ?_)
  have hf0 := HF.out.frozenN 0 rfl 0
  have hf1 := HF.out.frozenN 0 rfl 1
  have hd0 := HF.out.cellN 0 rfl 0 rfl
  have hd1 := HF.out.cellN 0 rfl 1 rfl
  refine skip_ (w1 := ?_) (by rfl) rfl ?_ ?_
  rotate_left
  · go_simp
    rfl
  have HE := Lib.hid (end_int HF.out (by simp) (by simp) (by omega) q1 Q2.out rfl)
  replace HF := Lib.hid ((HF.out.set (by omega) (by simp) 0 (.bool (decide (n < 0)))).set (by omega) (by simp) 1 (.slice A2 (dg n.natAbs).length c2))
  refine hK.out _ _ ⟨HF.out.cellN 1 rfl 0 rfl, HF.out.cellN 1 rfl 1 rfl⟩ (fun hHeld => ?_)
  clear hK K
  refine done_ (by kernel_rfl) ?_
  go_wp2
  obtain ⟨f1, f2⟩ := HE.out
  exact post_own f2 rfl rfl rfl Try.underlying29 rfl (by kernel_rfl) f1

set_option maxHeartbeats 1000000 in
set_option maxRecDepth 100000 in
theorem whole_Neg (s : Bool) (A : Option Addr) (c : Nat) (xs : List Int) (w : World) (h : In w A c xs) (hm : xs.length ≤ 1099511627776) :
    Calls Try.prog 121 #[.agg #[.bool s, .slice A xs.length c]] w fun e w' => ToldI w (- iv s (V xs)) e w' := by
  have hS := Lib.hid (fun (W : World) (hb : Below w.heap.size w W) => whole_Sign s A c xs W (h.below hb).row h.lim h.cap hm)
  have hN := Lib.hid (fun (W : World) (m : Int) (hb : Below w.heap.size w W) (hm1 : -1 ≤ m ∧ m ≤ 1) (he : - iv s (V xs) = if -1 * m < 0 then - V xs else V xs) =>
    whole_signed A c xs (some ⟨W.heap.size, 0, none⟩) 2 [-1, m] (W.alloc (.cells #[.int .i64 (-1), .int .i64 m] 3)) (h.below (hb.alloc hb.size _)).row h.lim h.cap hm
      (Row.ints (Own.mk (w := W) [.int .i64 (-1), .int .i64 m] 3)) (by simp) (by simp) (Sg.two (by omega) hm1) (- iv s (V xs)) (by rw [pr_two]; exact he))
  have hv := V_nonneg h.lim
  clear h
  generalize V xs = v at *
  have hsg := sgn_bound (iv s v)
  have hsx : Hid (- iv s v = if -1 * sgn (iv s v) < 0 then -v else v) := by
    show _ = _
    unfold sgn iv
    cases s <;> simp <;> (repeat' split) <;> omega
  generalize - iv s v = n at *
  generalize sgn (iv s v) = m at *
  have HF := Lib.hid (((Fr.refl w).box [.bool s, .slice A xs.length c] 29).box [.bool false, .slice none 0 0] 29)
  have hsz : (w.alloc (.cells #[.bool s, .slice A xs.length c] 29)).heap.size = w.heap.size + 1 := by simp
  rw [show [Value.bool s, Value.slice A xs.length c].toArray = #[Value.bool s, Value.slice A xs.length c] from rfl, hsz] at HF
  clear hsz
  go_enter Try.func121, Try.ntmps121
  go_wp2_with fail
  generalize (w.alloc (Obj.cells #[Value.bool s, Value.slice A xs.length c] 29)).alloc (Obj.cells #[Value.bool false, Value.slice none 0 0] 29) = W at *
  have HF_ := Lib.hid HF.out.drew
  clear HF
  have HF := HF_
  clear HF_
  refine start_ (n := 7) (S := fun w' => w'.cell? ⟨w.heap.size, 0, none⟩ = some (.bool s) ∧ w'.cell? ⟨w.heap.size, 1, none⟩ = some (.slice A xs.length c)) (ds := []) #[false, false, false, false, false, false, false] (by kernel_rfl) rfl rfl ⟨HF.out.cellN 1 rfl 0 rfl, HF.out.cellN 1 rfl 1 rfl⟩ (fun hHeld => ?_)
  generalize World.drew _ = W at *
  refine pure_ (i := 0) (N := (some 3)) (v := ?_) (a' := ?_) #[true, false, false, false, false, false, false] rfl rfl (by kernel_rfl) (fun _ _ _ h => h) (Or.inl ⟨by rfl, ?_⟩) ?_ ?_
  rotate_left
  · intro w'
    go_simp
    with_reducible rfl
  rotate_left
  · simp only [Act.put, List.setIfInBounds_toArray, List.set_cons_zero, List.set_cons_succ]
    rfl
  refine take_ (i := 1) (N := (some 4)) (v := ?_) (a' := ?_) #[true, true, false, false, false, false, false] rfl rfl (by kernel_rfl) (fun _ _ _ h => h) (Or.inl ⟨by rfl, ?_⟩) hHeld ?_ ?_
  rotate_left
  · rintro w' ⟨s0, s1⟩
    go_simp
    with_reducible rfl
  rotate_left
  · simp only [Act.put, List.setIfInBounds_toArray, List.set_cons_zero, List.set_cons_succ]
    rfl
  refine take_ (i := 2) (N := (some 5)) (v := ?_) (a' := ?_) #[true, true, true, false, false, false, false] rfl rfl (by kernel_rfl) (fun _ _ _ h => h) (Or.inl ⟨by rfl, ?_⟩) hHeld ?_ ?_
  rotate_left
  · rintro w' ⟨s0, s1⟩
    go_simp
    with_reducible rfl
  rotate_left
  · simp only [Act.put, List.setIfInBounds_toArray, List.set_cons_zero, List.set_cons_succ]
    rfl
  refine one_ (i := 3) (N := (some 6)) #[true, true, true, true, false, false, false] rfl rfl (by kernel_rfl) (by decide) (fun K hK => ?_)
  refine goes_ Try.func102 (by kernel_rfl) rfl #[.agg #[.bool s, .slice A xs.length c]] (by rfl) rfl rfl (by (try simp only [List.map_toArray, List.map_cons, List.map_nil]); first | done | rfl) ?_
  refine (hS.out W HF.out.bel).mono ?_
  rintro e W1 ⟨rfl, hb⟩
  refine ⟨_, rfl, ?_⟩
  replace HF := Lib.hid (HF.out.below hb)
  clear hb
  refine hK.out _ _ ⟨HF.out.cellN 1 rfl 0 rfl, HF.out.cellN 1 rfl 1 rfl⟩ (fun hHeld => ?_)
  clear hK K
  refine norm_ (a' := ?_) ?_ ?_
  rotate_left
  · show Act.put _ (some 6) _ = _
    simp only [Act.put, List.setIfInBounds_toArray, List.set_cons_zero, List.set_cons_succ]
    rfl
  refine one_ (i := 4) (N := (some 7)) #[true, true, true, true, true, false, false] rfl rfl (by kernel_rfl) (by decide) (fun K hK => ?_)
  refine value_ (v := ?_) (w1 := ?_) (by rfl) rfl ?_ ?_
  rotate_left
  rotate_left
  · go_simp
    first | rfl | (refine ⟨?_, ?_⟩ <;> rfl)
  have HG := HF
  replace HF := Lib.hid (HF.out.alloc (.cells #[.int .i64 (-1), .int .i64 m] 3))
  refine hK.out _ _ ⟨HF.out.cellN 1 rfl 0 rfl, HF.out.cellN 1 rfl 1 rfl⟩ (fun hHeld => ?_)
  clear hK K
  refine norm_ (a' := ?_) ?_ ?_
  rotate_left
  · show Act.put _ (some 7) _ = _
    simp only [Act.put, List.setIfInBounds_toArray, List.set_cons_zero, List.set_cons_succ]
    rfl
  refine one_ (i := 5) (N := (some 8)) #[true, true, true, true, true, true, false] rfl rfl (by kernel_rfl) (by decide) (fun K hK => ?_)
  refine goes_ Try.func130 (by kernel_rfl) rfl #[.slice A xs.length c, .slice (some ⟨W1.heap.size, 0, none⟩) 2 2] (by rfl) rfl rfl (by (try simp only [List.map_toArray, List.map_cons, List.map_nil]); first | done | rfl) ?_
  refine (hN.out W1 m HG.out.bel hsg hsx.out).mono ?_
  rintro e W2 ⟨A2, c2, rfl, q1, q2, q3⟩
  refine ⟨_, rfl, ?_⟩
  replace HF := Lib.hid (HF.out.below q3)
  have Q2 := Lib.hid q2
  clear q2 q3 HG
  refine hK.out _ _ ⟨HF.out.cellN 1 rfl 0 rfl, HF.out.cellN 1 rfl 1 rfl⟩ (fun hHeld => ?_)
  clear hK K
  refine norm_ (a' := ?_) ?_ ?_
  rotate_left
  · show Act.put _ (some 8) _ = _
    simp only [Act.put, List.setIfInBounds_toArray, List.set_cons_zero, List.set_cons_succ]
    rfl
  refine one_ (i := 6) (N := none) #[true, true, true, true, true, true, true] rfl rfl (by kernel_rfl) (by decide) (fun K hK => ?_)
  have hf0 := HF.out.frozenN 0 rfl 0
  have hf1 := HF.out.frozenN 0 rfl 1
  have hd0 := HF.out.cellN 0 rfl 0 rfl
  have hd1 := HF.out.cellN 0 rfl 1 rfl
  refine skip_ (w1 := ?_) (by rfl) rfl ?_ ?_
  rotate_left
  · go_simp
    rfl
  have HE := Lib.hid (end_int HF.out (by simp) (by simp) (by omega) q1 Q2.out rfl)
  replace HF := Lib.hid ((HF.out.set (by omega) (by simp) 0 (.bool (decide (n < 0)))).set (by omega) (by simp) 1 (.slice A2 (dg n.natAbs).length c2))
  refine hK.out _ _ ⟨HF.out.cellN 1 rfl 0 rfl, HF.out.cellN 1 rfl 1 rfl⟩ (fun hHeld => ?_)
  clear hK K
  refine done_ (by kernel_rfl) ?_
  go_wp2
  obtain ⟨f1, f2⟩ := HE.out
  exact post_own f2 rfl rfl rfl Try.underlying29 rfl (by kernel_rfl) f1

theorem sgn_mul_if (s t : Bool) (x y : Int) (hx : 0 ≤ x) (hy : 0 ≤ y) : iv s x * iv t y = if sgn (iv s x) * sgn (iv t y) < 0 then - (x * y) else x * y := by
  have h1 : 0 ≤ x * y := Int.mul_nonneg hx hy
  rcases Int.lt_or_eq_of_le hx with h2 | h2
  · rcases Int.lt_or_eq_of_le hy with h3 | h3
    · cases s <;> cases t <;> simp [iv, sgn, h2, h3, Int.not_lt.2 hx, Int.not_lt.2 hy, Int.mul_neg, Int.neg_mul]
    · subst h3; cases t <;> simp [iv]
  · subst h2; cases s <;> simp [iv]

set_option maxHeartbeats 1000000 in
set_option maxRecDepth 100000 in
theorem whole_Mul (s : Bool) (A : Option Addr) (c : Nat) (xs : List Int) (t : Bool) (B : Option Addr) (d : Nat) (ys : List Int) (w : World) (h : In w A c xs) (hm : xs.length ≤ 549755813888) (k : In w B d ys) (km : ys.length ≤ 549755813888) :
    Calls Try.prog 98 #[.agg #[.bool s, .slice A xs.length c], .agg #[.bool t, .slice B ys.length d]] w fun e w' => ToldI w (iv s (V xs) * iv t (V ys)) e w' := by
  have hM := Lib.hid (fun (W : World) (hb : Below w.heap.size w W) => nat_Mul A c xs B d ys W (h.below hb).row h.lim h.cap hm (k.below hb).row k.lim k.cap km)
  have hS := Lib.hid (fun (W : World) (hb : Below w.heap.size w W) => whole_Sign s A c xs W (h.below hb).row h.lim h.cap (by omega))
  have hT := Lib.hid (fun (W : World) (hb : Below w.heap.size w W) => whole_Sign t B d ys W (k.below hb).row k.lim k.cap (by omega))
  have hv := V_nonneg h.lim
  have ku := V_nonneg k.lim
  have hp := Int.mul_nonneg hv ku
  have hlp : (dg (V xs * V ys).toNat).length ≤ 1099511627776 := by
    have h1 := iv_lt h.lim false
    have h2 := iv_lt k.lim false
    have h3 := dg_length_le (abs_mul_lt h1 h2)
    simp only [iv] at h3
    have h4 : (V xs * V ys).natAbs = (V xs * V ys).toNat := by omega
    have h5 : ((if false = true then -V xs else V xs) * if false = true then -V ys else V ys) = V xs * V ys := rfl
    rw [h5, h4] at h3
    omega
  have hxe := sgn_mul_if s t _ _ hv ku
  have hV : V (dg (V xs * V ys).toNat) = V xs * V ys := by rw [V_dg]; omega
  have hN := Lib.hid (fun (W : World) (A' : Option Addr) (c' : Nat) (hr : Rn W A' (dg (V xs * V ys).toNat)) (hc : (dg (V xs * V ys).toNat).length ≤ c') =>
    whole_signed A' c' (dg (V xs * V ys).toNat) (some ⟨W.heap.size, 0, none⟩) 2 [sgn (iv s (V xs)), sgn (iv t (V ys))] (W.alloc (.cells #[.int .i64 (sgn (iv s (V xs))), .int .i64 (sgn (iv t (V ys)))] 3)) (Knd.Row.below ((Below.refl _ W).alloc (Nat.le_refl _) _) hr) (Lim_dg _) hc hlp
      (Row.ints (Own.mk (w := W) [.int .i64 (sgn (iv s (V xs))), .int .i64 (sgn (iv t (V ys)))] 3)) (by simp) (by simp) (Sg.two (sgn_bound _) (sgn_bound _)) (iv s (V xs) * iv t (V ys)) (by rw [pr_two, hV]; exact hxe))
  clear hxe hV hlp h k hv ku hp
  unfold Told at hM
  generalize (V xs * V ys).toNat = p at *
  generalize iv s (V xs) * iv t (V ys) = n at *
  generalize sgn (iv s (V xs)) = m1 at *
  generalize sgn (iv t (V ys)) = m2 at *
  have HF := Lib.hid ((((Fr.refl w).box [.bool s, .slice A xs.length c] 29).box [.bool t, .slice B ys.length d] 29).box [.bool false, .slice none 0 0] 29)
  have hsz : (w.alloc (.cells #[.bool s, .slice A xs.length c] 29)).heap.size = w.heap.size + 1 := by simp
  have hsz2 : ((w.alloc (.cells #[.bool s, .slice A xs.length c] 29)).alloc (.cells #[.bool t, .slice B ys.length d] 29)).heap.size = w.heap.size + 2 := by simp
  rw [show [Value.bool s, Value.slice A xs.length c].toArray = #[Value.bool s, Value.slice A xs.length c] from rfl, hsz, show [Value.bool t, Value.slice B ys.length d].toArray = #[Value.bool t, Value.slice B ys.length d] from rfl, hsz2] at HF
  clear hsz hsz2
  go_enter Try.func98, Try.ntmps98
  go_wp2_with fail
  generalize ((w.alloc (Obj.cells #[Value.bool s, Value.slice A xs.length c] 29)).alloc (Obj.cells #[Value.bool t, Value.slice B ys.length d] 29)).alloc (Obj.cells #[Value.bool false, Value.slice none 0 0] 29) = W at *
  have HF_ := Lib.hid HF.out.drew
  clear HF
  have HF := HF_
  clear HF_
  refine start_ (n := 12) (S := fun w' => w'.cell? ⟨w.heap.size, 0, none⟩ = some (.bool s) ∧ w'.cell? ⟨w.heap.size, 1, none⟩ = some (.slice A xs.length c) ∧ w'.cell? ⟨w.heap.size + 1, 0, none⟩ = some (.bool t) ∧ w'.cell? ⟨w.heap.size + 1, 1, none⟩ = some (.slice B ys.length d)) (ds := []) #[false, false, false, false, false, false, false, false, false, false, false, false] (by kernel_rfl) rfl rfl ⟨HF.out.cellN 2 rfl 0 rfl, HF.out.cellN 2 rfl 1 rfl, HF.out.cellN 1 rfl 0 rfl, HF.out.cellN 1 rfl 1 rfl⟩ (fun hHeld => ?_)
  generalize World.drew _ = W at *
  refine pure_ (i := 0) (N := (some 5)) (v := ?_) (a' := ?_) #[true, false, false, false, false, false, false, false, false, false, false, false] rfl rfl (by kernel_rfl) (fun _ _ _ h => h) (Or.inl ⟨by rfl, ?_⟩) ?_ ?_
  rotate_left
  · intro w'
    go_simp
    with_reducible rfl
  rotate_left
  · simp only [Act.put, List.setIfInBounds_toArray, List.set_cons_zero, List.set_cons_succ]
    rfl
  refine pure_ (i := 2) (N := (some 7)) (v := ?_) (a' := ?_) #[true, false, true, false, false, false, false, false, false, false, false, false] rfl rfl (by kernel_rfl) (fun _ _ _ h => h) (Or.inl ⟨by rfl, ?_⟩) ?_ ?_
  rotate_left
  · intro w'
    go_simp
    with_reducible rfl
  rotate_left
  · simp only [Act.put, List.setIfInBounds_toArray, List.set_cons_zero, List.set_cons_succ]
    rfl
  refine take_ (i := 1) (N := (some 6)) (v := ?_) (a' := ?_) #[true, true, true, false, false, false, false, false, false, false, false, false] rfl rfl (by kernel_rfl) (fun _ _ _ h => h) (Or.inl ⟨by rfl, ?_⟩) hHeld ?_ ?_
  rotate_left
  · rintro w' ⟨s0, s1, s2, s3⟩
    go_simp
    with_reducible rfl
  rotate_left
  · simp only [Act.put, List.setIfInBounds_toArray, List.set_cons_zero, List.set_cons_succ]
    rfl
  refine take_ (i := 3) (N := (some 8)) (v := ?_) (a' := ?_) #[true, true, true, true, false, false, false, false, false, false, false, false] rfl rfl (by kernel_rfl) (fun _ _ _ h => h) (Or.inl ⟨by rfl, ?_⟩) hHeld ?_ ?_
  rotate_left
  · rintro w' ⟨s0, s1, s2, s3⟩
    go_simp
    with_reducible rfl
  rotate_left
  · simp only [Act.put, List.setIfInBounds_toArray, List.set_cons_zero, List.set_cons_succ]
    rfl
  refine take_ (i := 5) (N := (some 10)) (v := ?_) (a' := ?_) #[true, true, true, true, false, true, false, false, false, false, false, false] rfl rfl (by kernel_rfl) (fun _ _ _ h => h) (Or.inl ⟨by rfl, ?_⟩) hHeld ?_ ?_
  rotate_left
  · rintro w' ⟨s0, s1, s2, s3⟩
    go_simp
    with_reducible rfl
  rotate_left
  · simp only [Act.put, List.setIfInBounds_toArray, List.set_cons_zero, List.set_cons_succ]
    rfl
  refine take_ (i := 7) (N := (some 12)) (v := ?_) (a' := ?_) #[true, true, true, true, false, true, false, true, false, false, false, false] rfl rfl (by kernel_rfl) (fun _ _ _ h => h) (Or.inl ⟨by rfl, ?_⟩) hHeld ?_ ?_
  rotate_left
  · rintro w' ⟨s0, s1, s2, s3⟩
    go_simp
    with_reducible rfl
  rotate_left
  · simp only [Act.put, List.setIfInBounds_toArray, List.set_cons_zero, List.set_cons_succ]
    rfl
  refine one_ (i := 4) (N := (some 9)) #[true, true, true, true, true, true, false, true, false, false, false, false] rfl rfl (by kernel_rfl) (by decide) (fun K hK => ?_)
  refine goes_ Try.func84 (by kernel_rfl) rfl #[.slice A xs.length c, .slice B ys.length d] (by rfl) rfl rfl (by (try simp only [List.map_toArray, List.map_cons, List.map_nil]); first | done | rfl) ?_
  refine (hM.out W HF.out.bel).mono ?_
  rintro e W1 ⟨A1, c1, rfl, q1, q2, q3⟩
  refine ⟨_, rfl, ?_⟩
  replace HF := Lib.hid (HF.out.below q3)
  have Q2 := Lib.hid q2
  clear q2 q3
  refine hK.out _ _ ⟨HF.out.cellN 2 rfl 0 rfl, HF.out.cellN 2 rfl 1 rfl, HF.out.cellN 1 rfl 0 rfl, HF.out.cellN 1 rfl 1 rfl⟩ (fun hHeld => ?_)
  clear hK K
  refine norm_ (a' := ?_) ?_ ?_
  rotate_left
  · show Act.put _ (some 9) _ = _
    simp only [Act.put, List.setIfInBounds_toArray, List.set_cons_zero, List.set_cons_succ]
    rfl
  refine one_ (i := 6) (N := (some 11)) #[true, true, true, true, true, true, true, true, false, false, false, false] rfl rfl (by kernel_rfl) (by decide) (fun K hK => ?_)
  refine goes_ Try.func102 (by kernel_rfl) rfl #[.agg #[.bool s, .slice A xs.length c]] (by rfl) rfl rfl (by (try simp only [List.map_toArray, List.map_cons, List.map_nil]); first | done | rfl) ?_
  refine (hS.out W1 HF.out.bel).mono ?_
  rintro e W2 ⟨rfl, hb⟩
  refine ⟨_, rfl, ?_⟩
  replace HF := Lib.hid (HF.out.below hb)
  replace Q2 := Lib.hid (Knd.Row.below hb Q2.out)
  clear hb
  refine hK.out _ _ ⟨HF.out.cellN 2 rfl 0 rfl, HF.out.cellN 2 rfl 1 rfl, HF.out.cellN 1 rfl 0 rfl, HF.out.cellN 1 rfl 1 rfl⟩ (fun hHeld => ?_)
  clear hK K
  refine norm_ (a' := ?_) ?_ ?_
  rotate_left
  · show Act.put _ (some 11) _ = _
    simp only [Act.put, List.setIfInBounds_toArray, List.set_cons_zero, List.set_cons_succ]
    rfl
  refine one_ (i := 8) (N := (some 13)) #[true, true, true, true, true, true, true, true, true, false, false, false] rfl rfl (by kernel_rfl) (by decide) (fun K hK => ?_)
  refine goes_ Try.func102 (by kernel_rfl) rfl #[.agg #[.bool t, .slice B ys.length d]] (by rfl) rfl rfl (by (try simp only [List.map_toArray, List.map_cons, List.map_nil]); first | done | rfl) ?_
  refine (hT.out W2 HF.out.bel).mono ?_
  rintro e W3 ⟨rfl, hb⟩
  refine ⟨_, rfl, ?_⟩
  replace HF := Lib.hid (HF.out.below hb)
  replace Q2 := Lib.hid (Knd.Row.below hb Q2.out)
  clear hb
  refine hK.out _ _ ⟨HF.out.cellN 2 rfl 0 rfl, HF.out.cellN 2 rfl 1 rfl, HF.out.cellN 1 rfl 0 rfl, HF.out.cellN 1 rfl 1 rfl⟩ (fun hHeld => ?_)
  clear hK K
  refine norm_ (a' := ?_) ?_ ?_
  rotate_left
  · show Act.put _ (some 13) _ = _
    simp only [Act.put, List.setIfInBounds_toArray, List.set_cons_zero, List.set_cons_succ]
    rfl
  refine one_ (i := 9) (N := (some 14)) #[true, true, true, true, true, true, true, true, true, true, false, false] rfl rfl (by kernel_rfl) (by decide) (fun K hK => ?_)
  refine value_ (v := ?_) (w1 := ?_) (by rfl) rfl ?_ ?_
  rotate_left
  rotate_left
  · go_simp
    first | rfl | (refine ⟨?_, ?_⟩ <;> rfl)
  replace HF := Lib.hid (HF.out.alloc (.cells #[.int .i64 m1, .int .i64 m2] 3))
  refine hK.out _ _ ⟨HF.out.cellN 2 rfl 0 rfl, HF.out.cellN 2 rfl 1 rfl, HF.out.cellN 1 rfl 0 rfl, HF.out.cellN 1 rfl 1 rfl⟩ (fun hHeld => ?_)
  clear hK K
  refine norm_ (a' := ?_) ?_ ?_
  rotate_left
  · show Act.put _ (some 14) _ = _
    simp only [Act.put, List.setIfInBounds_toArray, List.set_cons_zero, List.set_cons_succ]
    rfl
  refine one_ (i := 10) (N := (some 15)) #[true, true, true, true, true, true, true, true, true, true, true, false] rfl rfl (by kernel_rfl) (by decide) (fun K hK => ?_)
  refine goes_ Try.func130 (by kernel_rfl) rfl #[.slice A1 (dg p).length c1, .slice (some ⟨W3.heap.size, 0, none⟩) 2 2] (by rfl) rfl rfl (by (try simp only [List.map_toArray, List.map_cons, List.map_nil]); first | done | rfl) ?_
  refine (hN.out W3 A1 c1 Q2.out q1).mono ?_
  rintro e W4 ⟨A2, c2, rfl, q4, q2, q3⟩
  refine ⟨_, rfl, ?_⟩
  replace HF := Lib.hid (HF.out.below q3)
  replace Q2 := Lib.hid q2
  clear q2 q3
  refine hK.out _ _ ⟨HF.out.cellN 2 rfl 0 rfl, HF.out.cellN 2 rfl 1 rfl, HF.out.cellN 1 rfl 0 rfl, HF.out.cellN 1 rfl 1 rfl⟩ (fun hHeld => ?_)
  clear hK K
  refine norm_ (a' := ?_) ?_ ?_
  rotate_left
  · show Act.put _ (some 15) _ = _
    simp only [Act.put, List.setIfInBounds_toArray, List.set_cons_zero, List.set_cons_succ]
    rfl
  refine one_ (i := 11) (N := none) #[true, true, true, true, true, true, true, true, true, true, true, true] rfl rfl (by kernel_rfl) (by decide) (fun K hK => ?_)
  have hf0 := HF.out.frozenN 0 rfl 0
  have hf1 := HF.out.frozenN 0 rfl 1
  have hd0 := HF.out.cellN 0 rfl 0 rfl
  have hd1 := HF.out.cellN 0 rfl 1 rfl
  refine skip_ (w1 := ?_) (by rfl) rfl ?_ ?_
  rotate_left
  · go_simp
    rfl
  have HE := Lib.hid (end_int HF.out (by simp) (by simp) (by omega) q4 Q2.out rfl)
  replace HF := Lib.hid ((HF.out.set (by omega) (by simp) 0 (.bool (decide (n < 0)))).set (by omega) (by simp) 1 (.slice A2 (dg n.natAbs).length c2))
  refine hK.out _ _ ⟨HF.out.cellN 2 rfl 0 rfl, HF.out.cellN 2 rfl 1 rfl, HF.out.cellN 1 rfl 0 rfl, HF.out.cellN 1 rfl 1 rfl⟩ (fun hHeld => ?_)
  clear hK K
  refine done_ (by kernel_rfl) ?_
  go_wp2
  obtain ⟨f1, f2⟩ := HE.out
  exact post_own f2 rfl rfl rfl Try.underlying29 rfl (by kernel_rfl) f1
end Go.Proofs.Ytchdoignomidjaa.F

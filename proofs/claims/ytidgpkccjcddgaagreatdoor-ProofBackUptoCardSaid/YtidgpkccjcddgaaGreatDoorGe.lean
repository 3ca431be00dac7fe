/- The walks of package whole, second part: Norm, Neg, Of, Mul. -/
import Derived.Test.YtidgpkccjcddgaaGreatDoorGdf
set_option linter.unusedVariables false
set_option linter.unusedSimpArgs false
namespace Go.Proofs.YtidgpkccjcddgaaGreatDoor.F
open Go.RowKit Go.Shelf Go.Proofs.YtidgpkccjcddgaaGreatDoorW.PrintLast
theorem sgn_bound (x : Int) : -1 ≤ sgn x ∧ sgn x ≤ 1 := by unfold sgn; split <;> (try split) <;> omega
theorem Sg.one {s : Int} (h : -1 ≤ s ∧ s ≤ 1) : Sg [s] := by
 intro i hi
 have : i = 0 := by simpa using hi
 subst this
 exact h
theorem Sg.two {s t : Int} (h : -1 ≤ s ∧ s ≤ 1) (k : -1 ≤ t ∧ t ≤ 1) : Sg [s, t] := by
 intro i hi
 have hi : i < 2 := by simpa using hi
 rcases i with _ | _ | i
 · exact h
 · exact k
 · omega
theorem Row.ints {k : IntKind} {w : World} {g : Nat} {xs : List Int} (h : Own w g (xs.map (Value.int k))) : (Knd.int k).Row w (some ⟨g, 0, none⟩) xs := by
 intro i hi
 refine ⟨⟨g, 0, none⟩, [.int k xs[i]], rfl, rfl, fun j u hu => ?_⟩
 cases j with
 | succ j => simp at hu
 | zero =>
  simp at hu
  subst hu
  have h1 := Own.cell h i (by simpa using hi)
  have e : (⟨g, 0, none⟩ : Addr).add (i * (Knd.int k).sz + 0) = ⟨g, i, none⟩ := by
   show (⟨g, 0, none⟩ : Addr).add (i * 1 + 0) = _
   unfold Addr.add
   split
   · rename_i h2; have : i = 0 := by omega
     subst this; rfl
   · simp
  rw [e, h1]
  simp
theorem pr_one (s : Int) : pr [s] = s := by simp [pr]
theorem pr_two (s t : Int) : pr [s, t] = s * t := by simp [pr]
set_option maxHeartbeats 1000000 in
set_option maxRecDepth 100000 in
theorem whole_Norm (s : Bool) (A : Option Addr) (c : Nat) (xs : List Int) (w : World) (h : Rn w A xs) (hl : Lim xs) (hc : xs.length ≤ c) (hm : xs.length ≤ 1099511627776) :
 Calls Tryz.prog 204 #[.agg #[.bool s, .slice A xs.length c]] w fun e w' => ToldI w (iv s (V xs)) e w' := by
 have hS := Lib.hid (fun (W : World) (hb : Below w.heap.size w W) => whole_Sign s A c xs W (h.below hb) hl hc hm)
 have hN := Lib.hid (fun (W : World) (m : Int) (hb : Below w.heap.size w W) (hm1 : -1 ≤ m ∧ m ≤ 1) (he : iv s (V xs) = if m < 0 then - V xs else V xs) =>
  whole_signed A c xs (some ⟨W.heap.size, 0, none⟩) 1 [m] (W.alloc (.cells #[.int .i64 m] 3)) (h.below (hb.alloc hb.size _)) hl hc hm
   (Row.ints (Own.mk (w := W) [.int .i64 m] 3)) (by simp) (by simp) (Sg.one hm1) (iv s (V xs)) (by rw [pr_one]; exact he))
 have hv := V_nonneg hl
 clear h hl hc
 generalize V xs = v at *
 have hsg := sgn_bound (iv s v)
 have hsx : Hid (iv s v = if sgn (iv s v) < 0 then -v else v) := by
  show _ = _
  unfold sgn iv
  cases s <;> simp <;> (repeat' split) <;> omega
 generalize iv s v = n at *
 generalize sgn n = m at *
 have HF := Lib.hid (((Fr.refl w).box [.bool s, .slice A xs.length c] 41).box [.bool false, .slice none 0 0] 41)
 have hsz : (w.alloc (.cells #[.bool s, .slice A xs.length c] 41)).heap.size = w.heap.size + 1 := by simp
 rw [show [Value.bool s, Value.slice A xs.length c].toArray = #[Value.bool s, Value.slice A xs.length c] from rfl, hsz] at HF
 clear hsz
 go_enter Tryz.func204, Tryz.ntmps204
 go_wp2_with fail
 generalize (w.alloc (Obj.cells #[Value.bool s, Value.slice A xs.length c] 41)).alloc (Obj.cells #[Value.bool false, Value.slice none 0 0] 41) = W at *
 have HF_ := Lib.hid HF.out.drew
 clear HF
 have HF := HF_
 clear HF_
 refine start_ (n := 7) (S := fun w' => w'.cell? ⟨w.heap.size, 0, none⟩ = some (.bool s) ∧ w'.cell? ⟨w.heap.size, 1, none⟩ = some (.slice A xs.length c)) (ds := []) #[false, false, false, false, false, false, false] (by kernel_rfl) rfl rfl ⟨HF.out.cellN 1 rfl 0 rfl, HF.out.cellN 1 rfl 1 rfl⟩ (fun hHeld => ?_)
 generalize World.drew _ = W at *
 refine pu_ (v := ?_) (a' := ?_) 0 (some 3) rfl rfl ?_ ?_ ?_
 rotate_left; · intro w'; go_simp; with_reducible rfl
 rotate_left
 · simp only [Act.put, sa_, sb_, sc_]
   rfl
 refine tk_ (v := ?_) (a' := ?_) 1 (some 4) rfl rfl ?_ hHeld ?_ ?_
 rotate_left
 · rintro w' ⟨s0, s1⟩; go_simp; with_reducible rfl
 rotate_left
 · simp only [Act.put, sa_, sb_, sc_]
   rfl
 refine tk_ (v := ?_) (a' := ?_) 2 (some 5) rfl rfl ?_ hHeld ?_ ?_
 rotate_left
 · rintro w' ⟨s0, s1⟩; go_simp; with_reducible rfl
 rotate_left
 · simp only [Act.put, sa_, sb_, sc_]
   rfl
 refine on_ 3 (N := (some 6)) rfl rfl (fun K hK => ?_)
 refine goes_ Tryz.func127 (by kernel_rfl) rfl #[.agg #[.bool s, .slice A xs.length c]] (by rfl) rfl rfl (by (try simp only [List.map_toArray, List.map_cons, List.map_nil]); first | done | rfl) ?_
 refine (hS.out W HF.out.bel).mono ?_
 rintro e W1 ⟨rfl, hb⟩
 refine ⟨_, rfl, ?_⟩
 replace HF := Lib.hid (HF.out.below hb)
 clear hb
 refine hK.out _ _ ⟨HF.out.cellN 1 rfl 0 rfl, HF.out.cellN 1 rfl 1 rfl⟩ (fun hHeld => ?_)
 clear hK K
 refine norm_ (a' := ?_) ?_ ?_
 rotate_left
 · show Act.put _ (some 6) _ = _
   simp only [Act.put, sa_, sb_, sc_]
   rfl
 refine on_ 4 (N := (some 7)) rfl rfl (fun K hK => ?_)
 refine value_ (v := ?_) (w1 := ?_) (by rfl) rfl ?_ ?_
 rotate_left
 rotate_left
 · go_simp
   first | rfl | (refine ⟨?_, ?_⟩ <;> rfl)
 have HG := HF
 replace HF := Lib.hid (HF.out.alloc (.cells #[.int .i64 m] 3))
 refine hK.out _ _ ⟨HF.out.cellN 1 rfl 0 rfl, HF.out.cellN 1 rfl 1 rfl⟩ (fun hHeld => ?_)
 clear hK K
 refine norm_ (a' := ?_) ?_ ?_
 rotate_left
 · show Act.put _ (some 7) _ = _
   simp only [Act.put, sa_, sb_, sc_]
   rfl
 refine on_ 5 (N := (some 8)) rfl rfl (fun K hK => ?_)
 refine goes_ Tryz.func128 (by kernel_rfl) rfl #[.slice A xs.length c, .slice (some ⟨W1.heap.size, 0, none⟩) 1 1] (by rfl) rfl rfl (by (try simp only [List.map_toArray, List.map_cons, List.map_nil]); first | done | rfl) ?_
 refine (hN.out W1 m HG.out.bel hsg hsx.out).mono ?_
 rintro e W2 ⟨A2, c2, rfl, q1, q2, q3⟩
 refine ⟨_, rfl, ?_⟩
 replace HF := Lib.hid (HF.out.below q3)
 have Q2 := Lib.hid q2
 clear q2 q3 HG
 refine hK.out _ _ ⟨HF.out.cellN 1 rfl 0 rfl, HF.out.cellN 1 rfl 1 rfl⟩ (fun hHeld => ?_)
 clear hK K
 refine norm_ (a' := ?_) ?_ ?_
 rotate_left
 · show Act.put _ (some 8) _ = _
   simp only [Act.put, sa_, sb_, sc_]
   rfl
 refine on_ 6 (N := none) rfl rfl (fun K hK => ?_)
 have hf0 := HF.out.frozenN 0 rfl 0
 have hf1 := HF.out.frozenN 0 rfl 1
 have hd0 := HF.out.cellN 0 rfl 0 rfl
 have hd1 := HF.out.cellN 0 rfl 1 rfl
 refine skip_ (w1 := ?_) (by rfl) rfl ?_ ?_
 rotate_left
 · go_simp
   rfl
 have HE := Lib.hid (end_int HF.out (by simp) (by simp) (by omega) q1 Q2.out rfl)
 replace HF := Lib.hid ((HF.out.set (by omega) (by simp) 0 (.bool (decide (n < 0)))).set (by omega) (by simp) 1 (.slice A2 (dg n.natAbs).length c2))
 refine hK.out _ _ ⟨HF.out.cellN 1 rfl 0 rfl, HF.out.cellN 1 rfl 1 rfl⟩ (fun hHeld => ?_)
 clear hK K
 refine done_ (by kernel_rfl) ?_
 go_wp2
 obtain ⟨f1, f2⟩ := HE.out
 exact post_own f2 rfl rfl rfl Tryz.underlying41 rfl (by kernel_rfl) f1
set_option maxHeartbeats 1000000 in
set_option maxRecDepth 100000 in
theorem whole_Neg (s : Bool) (A : Option Addr) (c : Nat) (xs : List Int) (w : World) (h : In w A c xs) (hm : xs.length ≤ 1099511627776) :
 Calls Tryz.prog 209 #[.agg #[.bool s, .slice A xs.length c]] w fun e w' => ToldI w (- iv s (V xs)) e w' := by
 have hS := Lib.hid (fun (W : World) (hb : Below w.heap.size w W) => whole_Sign s A c xs W (h.below hb).row h.lim h.cap hm)
 have hN := Lib.hid (fun (W : World) (m : Int) (hb : Below w.heap.size w W) (hm1 : -1 ≤ m ∧ m ≤ 1) (he : - iv s (V xs) = if -1 * m < 0 then - V xs else V xs) =>
  whole_signed A c xs (some ⟨W.heap.size, 0, none⟩) 2 [-1, m] (W.alloc (.cells #[.int .i64 (-1), .int .i64 m] 3)) (h.below (hb.alloc hb.size _)).row h.lim h.cap hm
   (Row.ints (Own.mk (w := W) [.int .i64 (-1), .int .i64 m] 3)) (by simp) (by simp) (Sg.two (by omega) hm1) (- iv s (V xs)) (by rw [pr_two]; exact he))
 have hv := V_nonneg h.lim
 clear h
 generalize V xs = v at *
 have hsg := sgn_bound (iv s v)
 have hsx : Hid (- iv s v = if -1 * sgn (iv s v) < 0 then -v else v) := by
  show _ = _
  unfold sgn iv
  cases s <;> simp <;> (repeat' split) <;> omega
 generalize - iv s v = n at *
 generalize sgn (iv s v) = m at *
 have HF := Lib.hid (((Fr.refl w).box [.bool s, .slice A xs.length c] 41).box [.bool false, .slice none 0 0] 41)
 have hsz : (w.alloc (.cells #[.bool s, .slice A xs.length c] 41)).heap.size = w.heap.size + 1 := by simp
 rw [show [Value.bool s, Value.slice A xs.length c].toArray = #[Value.bool s, Value.slice A xs.length c] from rfl, hsz] at HF
 clear hsz
 go_enter Tryz.func209, Tryz.ntmps209
 go_wp2_with fail
 generalize (w.alloc (Obj.cells #[Value.bool s, Value.slice A xs.length c] 41)).alloc (Obj.cells #[Value.bool false, Value.slice none 0 0] 41) = W at *
 have HF_ := Lib.hid HF.out.drew
 clear HF
 have HF := HF_
 clear HF_
 refine start_ (n := 7) (S := fun w' => w'.cell? ⟨w.heap.size, 0, none⟩ = some (.bool s) ∧ w'.cell? ⟨w.heap.size, 1, none⟩ = some (.slice A xs.length c)) (ds := []) #[false, false, false, false, false, false, false] (by kernel_rfl) rfl rfl ⟨HF.out.cellN 1 rfl 0 rfl, HF.out.cellN 1 rfl 1 rfl⟩ (fun hHeld => ?_)
 generalize World.drew _ = W at *
 refine pu_ (v := ?_) (a' := ?_) 0 (some 3) rfl rfl ?_ ?_ ?_
 rotate_left; · intro w'; go_simp; with_reducible rfl
 rotate_left
 · simp only [Act.put, sa_, sb_, sc_]
   rfl
 refine tk_ (v := ?_) (a' := ?_) 1 (some 4) rfl rfl ?_ hHeld ?_ ?_
 rotate_left
 · rintro w' ⟨s0, s1⟩; go_simp; with_reducible rfl
 rotate_left
 · simp only [Act.put, sa_, sb_, sc_]
   rfl
 refine tk_ (v := ?_) (a' := ?_) 2 (some 5) rfl rfl ?_ hHeld ?_ ?_
 rotate_left
 · rintro w' ⟨s0, s1⟩; go_simp; with_reducible rfl
 rotate_left
 · simp only [Act.put, sa_, sb_, sc_]
   rfl
 refine on_ 3 (N := (some 6)) rfl rfl (fun K hK => ?_)
 refine goes_ Tryz.func127 (by kernel_rfl) rfl #[.agg #[.bool s, .slice A xs.length c]] (by rfl) rfl rfl (by (try simp only [List.map_toArray, List.map_cons, List.map_nil]); first | done | rfl) ?_
 refine (hS.out W HF.out.bel).mono ?_
 rintro e W1 ⟨rfl, hb⟩
 refine ⟨_, rfl, ?_⟩
 replace HF := Lib.hid (HF.out.below hb)
 clear hb
 refine hK.out _ _ ⟨HF.out.cellN 1 rfl 0 rfl, HF.out.cellN 1 rfl 1 rfl⟩ (fun hHeld => ?_)
 clear hK K
 refine norm_ (a' := ?_) ?_ ?_
 rotate_left
 · show Act.put _ (some 6) _ = _
   simp only [Act.put, sa_, sb_, sc_]
   rfl
 refine on_ 4 (N := (some 7)) rfl rfl (fun K hK => ?_)
 refine value_ (v := ?_) (w1 := ?_) (by rfl) rfl ?_ ?_
 rotate_left
 rotate_left
 · go_simp
   first | rfl | (refine ⟨?_, ?_⟩ <;> rfl)
 have HG := HF
 replace HF := Lib.hid (HF.out.alloc (.cells #[.int .i64 (-1), .int .i64 m] 3))
 refine hK.out _ _ ⟨HF.out.cellN 1 rfl 0 rfl, HF.out.cellN 1 rfl 1 rfl⟩ (fun hHeld => ?_)
 clear hK K
 refine norm_ (a' := ?_) ?_ ?_
 rotate_left
 · show Act.put _ (some 7) _ = _
   simp only [Act.put, sa_, sb_, sc_]
   rfl
 refine on_ 5 (N := (some 8)) rfl rfl (fun K hK => ?_)
 refine goes_ Tryz.func128 (by kernel_rfl) rfl #[.slice A xs.length c, .slice (some ⟨W1.heap.size, 0, none⟩) 2 2] (by rfl) rfl rfl (by (try simp only [List.map_toArray, List.map_cons, List.map_nil]); first | done | rfl) ?_
 refine (hN.out W1 m HG.out.bel hsg hsx.out).mono ?_
 rintro e W2 ⟨A2, c2, rfl, q1, q2, q3⟩
 refine ⟨_, rfl, ?_⟩
 replace HF := Lib.hid (HF.out.below q3)
 have Q2 := Lib.hid q2
 clear q2 q3 HG
 refine hK.out _ _ ⟨HF.out.cellN 1 rfl 0 rfl, HF.out.cellN 1 rfl 1 rfl⟩ (fun hHeld => ?_)
 clear hK K
 refine norm_ (a' := ?_) ?_ ?_
 rotate_left
 · show Act.put _ (some 8) _ = _
   simp only [Act.put, sa_, sb_, sc_]
   rfl
 refine on_ 6 (N := none) rfl rfl (fun K hK => ?_)
 have hf0 := HF.out.frozenN 0 rfl 0
 have hf1 := HF.out.frozenN 0 rfl 1
 have hd0 := HF.out.cellN 0 rfl 0 rfl
 have hd1 := HF.out.cellN 0 rfl 1 rfl
 refine skip_ (w1 := ?_) (by rfl) rfl ?_ ?_
 rotate_left
 · go_simp
   rfl
 have HE := Lib.hid (end_int HF.out (by simp) (by simp) (by omega) q1 Q2.out rfl)
 replace HF := Lib.hid ((HF.out.set (by omega) (by simp) 0 (.bool (decide (n < 0)))).set (by omega) (by simp) 1 (.slice A2 (dg n.natAbs).length c2))
 refine hK.out _ _ ⟨HF.out.cellN 1 rfl 0 rfl, HF.out.cellN 1 rfl 1 rfl⟩ (fun hHeld => ?_)
 clear hK K
 refine done_ (by kernel_rfl) ?_
 go_wp2
 obtain ⟨f1, f2⟩ := HE.out
 exact post_own f2 rfl rfl rfl Tryz.underlying41 rfl (by kernel_rfl) f1
theorem sgn_mul_if (s t : Bool) (x y : Int) (hx : 0 ≤ x) (hy : 0 ≤ y) : iv s x * iv t y = if sgn (iv s x) * sgn (iv t y) < 0 then - (x * y) else x * y := by
 have h1 : 0 ≤ x * y := Int.mul_nonneg hx hy
 rcases Int.lt_or_eq_of_le hx with h2 | h2
 · rcases Int.lt_or_eq_of_le hy with h3 | h3
   · cases s <;> cases t <;> simp [iv, sgn, h2, h3, Int.not_lt.2 hx, Int.not_lt.2 hy, Int.mul_neg, Int.neg_mul]
   · subst h3; cases t <;> simp [iv]
 · subst h2; cases s <;> simp [iv]
set_option maxHeartbeats 1000000 in
set_option maxRecDepth 100000 in
theorem whole_Mul (s : Bool) (A : Option Addr) (c : Nat) (xs : List Int) (t : Bool) (B : Option Addr) (d : Nat) (ys : List Int) (w : World) (h : In w A c xs) (hm : xs.length ≤ 549755813888) (k : In w B d ys) (km : ys.length ≤ 549755813888) :
 Calls Tryz.prog 206 #[.agg #[.bool s, .slice A xs.length c], .agg #[.bool t, .slice B ys.length d]] w fun e w' => ToldI w (iv s (V xs) * iv t (V ys)) e w' := by
 have hM := Lib.hid (fun (W : World) (hb : Below w.heap.size w W) => nat_Mul A c xs B d ys W (h.below hb).row h.lim h.cap hm (k.below hb).row k.lim k.cap km)
 have hS := Lib.hid (fun (W : World) (hb : Below w.heap.size w W) => whole_Sign s A c xs W (h.below hb).row h.lim h.cap (by omega))
 have hT := Lib.hid (fun (W : World) (hb : Below w.heap.size w W) => whole_Sign t B d ys W (k.below hb).row k.lim k.cap (by omega))
 have hv := V_nonneg h.lim
 have ku := V_nonneg k.lim
 have hp := Int.mul_nonneg hv ku
 have hlp : (dg (V xs * V ys).toNat).length ≤ 1099511627776 := by
  have h1 := iv_lt h.lim false
  have h2 := iv_lt k.lim false
  have h3 := dg_length_le (abs_mul_lt h1 h2)
  simp only [iv] at h3
  have h4 : (V xs * V ys).natAbs = (V xs * V ys).toNat := by omega
  have h5 : ((if false = true then -V xs else V xs) * if false = true then -V ys else V ys) = V xs * V ys := rfl
  rw [h5, h4] at h3
  omega
 have hxe := sgn_mul_if s t _ _ hv ku
 have hV : V (dg (V xs * V ys).toNat) = V xs * V ys := by rw [V_dg]; omega
 have hN := Lib.hid (fun (W : World) (A' : Option Addr) (c' : Nat) (hr : Rn W A' (dg (V xs * V ys).toNat)) (hc : (dg (V xs * V ys).toNat).length ≤ c') =>
  whole_signed A' c' (dg (V xs * V ys).toNat) (some ⟨W.heap.size, 0, none⟩) 2 [sgn (iv s (V xs)), sgn (iv t (V ys))] (W.alloc (.cells #[.int .i64 (sgn (iv s (V xs))), .int .i64 (sgn (iv t (V ys)))] 3)) (Knd.Row.below ((Below.refl _ W).alloc (Nat.le_refl _) _) hr) (Lim_dg _) hc hlp
   (Row.ints (Own.mk (w := W) [.int .i64 (sgn (iv s (V xs))), .int .i64 (sgn (iv t (V ys)))] 3)) (by simp) (by simp) (Sg.two (sgn_bound _) (sgn_bound _)) (iv s (V xs) * iv t (V ys)) (by rw [pr_two, hV]; exact hxe))
 clear hxe hV hlp h k hv ku hp
 unfold Told at hM
 generalize (V xs * V ys).toNat = p at *
 generalize iv s (V xs) * iv t (V ys) = n at *
 generalize sgn (iv s (V xs)) = m1 at *
 generalize sgn (iv t (V ys)) = m2 at *
 have HF := Lib.hid ((((Fr.refl w).box [.bool s, .slice A xs.length c] 41).box [.bool t, .slice B ys.length d] 41).box [.bool false, .slice none 0 0] 41)
 have hsz : (w.alloc (.cells #[.bool s, .slice A xs.length c] 41)).heap.size = w.heap.size + 1 := by simp
 have hsz2 : ((w.alloc (.cells #[.bool s, .slice A xs.length c] 41)).alloc (.cells #[.bool t, .slice B ys.length d] 41)).heap.size = w.heap.size + 2 := by simp
 rw [show [Value.bool s, Value.slice A xs.length c].toArray = #[Value.bool s, Value.slice A xs.length c] from rfl, hsz, show [Value.bool t, Value.slice B ys.length d].toArray = #[Value.bool t, Value.slice B ys.length d] from rfl, hsz2] at HF
 clear hsz hsz2
 go_enter Tryz.func206, Tryz.ntmps206
 go_wp2_with fail
 generalize ((w.alloc (Obj.cells #[Value.bool s, Value.slice A xs.length c] 41)).alloc (Obj.cells #[Value.bool t, Value.slice B ys.length d] 41)).alloc (Obj.cells #[Value.bool false, Value.slice none 0 0] 41) = W at *
 have HF_ := Lib.hid HF.out.drew
 clear HF
 have HF := HF_
 clear HF_
 refine start_ (n := 12) (S := fun w' => w'.cell? ⟨w.heap.size, 0, none⟩ = some (.bool s) ∧ w'.cell? ⟨w.heap.size, 1, none⟩ = some (.slice A xs.length c) ∧ w'.cell? ⟨w.heap.size + 1, 0, none⟩ = some (.bool t) ∧ w'.cell? ⟨w.heap.size + 1, 1, none⟩ = some (.slice B ys.length d)) (ds := []) #[false, false, false, false, false, false, false, false, false, false, false, false] (by kernel_rfl) rfl rfl ⟨HF.out.cellN 2 rfl 0 rfl, HF.out.cellN 2 rfl 1 rfl, HF.out.cellN 1 rfl 0 rfl, HF.out.cellN 1 rfl 1 rfl⟩ (fun hHeld => ?_)
 generalize World.drew _ = W at *
 refine pu_ (v := ?_) (a' := ?_) 0 (some 5) rfl rfl ?_ ?_ ?_
 rotate_left; · intro w'; go_simp; with_reducible rfl
 rotate_left
 · simp only [Act.put, sa_, sb_, sc_]
   rfl
 refine pu_ (v := ?_) (a' := ?_) 2 (some 7) rfl rfl ?_ ?_ ?_
 rotate_left; · intro w'; go_simp; with_reducible rfl
 rotate_left
 · simp only [Act.put, sa_, sb_, sc_]
   rfl
 refine tk_ (v := ?_) (a' := ?_) 1 (some 6) rfl rfl ?_ hHeld ?_ ?_
 rotate_left
 · rintro w' ⟨s0, s1, s2, s3⟩; go_simp; with_reducible rfl
 rotate_left
 · simp only [Act.put, sa_, sb_, sc_]
   rfl
 refine tk_ (v := ?_) (a' := ?_) 3 (some 8) rfl rfl ?_ hHeld ?_ ?_
 rotate_left
 · rintro w' ⟨s0, s1, s2, s3⟩; go_simp; with_reducible rfl
 rotate_left
 · simp only [Act.put, sa_, sb_, sc_]
   rfl
 refine tk_ (v := ?_) (a' := ?_) 5 (some 10) rfl rfl ?_ hHeld ?_ ?_
 rotate_left
 · rintro w' ⟨s0, s1, s2, s3⟩; go_simp; with_reducible rfl
 rotate_left
 · simp only [Act.put, sa_, sb_, sc_]
   rfl
 refine tk_ (v := ?_) (a' := ?_) 7 (some 12) rfl rfl ?_ hHeld ?_ ?_
 rotate_left
 · rintro w' ⟨s0, s1, s2, s3⟩; go_simp; with_reducible rfl
 rotate_left
 · simp only [Act.put, sa_, sb_, sc_]
   rfl
 refine on_ 4 (N := (some 9)) rfl rfl (fun K hK => ?_)
 refine goes_ Tryz.func151 (by kernel_rfl) rfl #[.slice A xs.length c, .slice B ys.length d] (by rfl) rfl rfl (by (try simp only [List.map_toArray, List.map_cons, List.map_nil]); first | done | rfl) ?_
 refine (hM.out W HF.out.bel).mono ?_
 rintro e W1 ⟨A1, c1, rfl, q1, q2, q3⟩
 refine ⟨_, rfl, ?_⟩
 replace HF := Lib.hid (HF.out.below q3)
 have Q2 := Lib.hid q2
 clear q2 q3
 refine hK.out _ _ ⟨HF.out.cellN 2 rfl 0 rfl, HF.out.cellN 2 rfl 1 rfl, HF.out.cellN 1 rfl 0 rfl, HF.out.cellN 1 rfl 1 rfl⟩ (fun hHeld => ?_)
 clear hK K
 refine norm_ (a' := ?_) ?_ ?_
 rotate_left
 · show Act.put _ (some 9) _ = _
   simp only [Act.put, sa_, sb_, sc_]
   rfl
 refine on_ 6 (N := (some 11)) rfl rfl (fun K hK => ?_)
 refine goes_ Tryz.func127 (by kernel_rfl) rfl #[.agg #[.bool s, .slice A xs.length c]] (by rfl) rfl rfl (by (try simp only [List.map_toArray, List.map_cons, List.map_nil]); first | done | rfl) ?_
 refine (hS.out W1 HF.out.bel).mono ?_
 rintro e W2 ⟨rfl, hb⟩
 refine ⟨_, rfl, ?_⟩
 replace HF := Lib.hid (HF.out.below hb)
 replace Q2 := Lib.hid (Knd.Row.below hb Q2.out)
 clear hb
 refine hK.out _ _ ⟨HF.out.cellN 2 rfl 0 rfl, HF.out.cellN 2 rfl 1 rfl, HF.out.cellN 1 rfl 0 rfl, HF.out.cellN 1 rfl 1 rfl⟩ (fun hHeld => ?_)
 clear hK K
 refine norm_ (a' := ?_) ?_ ?_
 rotate_left
 · show Act.put _ (some 11) _ = _
   simp only [Act.put, sa_, sb_, sc_]
   rfl
 refine on_ 8 (N := (some 13)) rfl rfl (fun K hK => ?_)
 refine goes_ Tryz.func127 (by kernel_rfl) rfl #[.agg #[.bool t, .slice B ys.length d]] (by rfl) rfl rfl (by (try simp only [List.map_toArray, List.map_cons, List.map_nil]); first | done | rfl) ?_
 refine (hT.out W2 HF.out.bel).mono ?_
 rintro e W3 ⟨rfl, hb⟩
 refine ⟨_, rfl, ?_⟩
 replace HF := Lib.hid (HF.out.below hb)
 replace Q2 := Lib.hid (Knd.Row.below hb Q2.out)
 clear hb
 refine hK.out _ _ ⟨HF.out.cellN 2 rfl 0 rfl, HF.out.cellN 2 rfl 1 rfl, HF.out.cellN 1 rfl 0 rfl, HF.out.cellN 1 rfl 1 rfl⟩ (fun hHeld => ?_)
 clear hK K
 refine norm_ (a' := ?_) ?_ ?_
 rotate_left
 · show Act.put _ (some 13) _ = _
   simp only [Act.put, sa_, sb_, sc_]
   rfl
 refine on_ 9 (N := (some 14)) rfl rfl (fun K hK => ?_)
 refine value_ (v := ?_) (w1 := ?_) (by rfl) rfl ?_ ?_
 rotate_left
 rotate_left
 · go_simp
   first | rfl | (refine ⟨?_, ?_⟩ <;> rfl)
 replace HF := Lib.hid (HF.out.alloc (.cells #[.int .i64 m1, .int .i64 m2] 3))
 refine hK.out _ _ ⟨HF.out.cellN 2 rfl 0 rfl, HF.out.cellN 2 rfl 1 rfl, HF.out.cellN 1 rfl 0 rfl, HF.out.cellN 1 rfl 1 rfl⟩ (fun hHeld => ?_)
 clear hK K
 refine norm_ (a' := ?_) ?_ ?_
 rotate_left
 · show Act.put _ (some 14) _ = _
   simp only [Act.put, sa_, sb_, sc_]
   rfl
 refine on_ 10 (N := (some 15)) rfl rfl (fun K hK => ?_)
 refine goes_ Tryz.func128 (by kernel_rfl) rfl #[.slice A1 (dg p).length c1, .slice (some ⟨W3.heap.size, 0, none⟩) 2 2] (by rfl) rfl rfl (by (try simp only [List.map_toArray, List.map_cons, List.map_nil]); first | done | rfl) ?_
 refine (hN.out W3 A1 c1 Q2.out q1).mono ?_
 rintro e W4 ⟨A2, c2, rfl, q4, q2, q3⟩
 refine ⟨_, rfl, ?_⟩
 replace HF := Lib.hid (HF.out.below q3)
 replace Q2 := Lib.hid q2
 clear q2 q3
 refine hK.out _ _ ⟨HF.out.cellN 2 rfl 0 rfl, HF.out.cellN 2 rfl 1 rfl, HF.out.cellN 1 rfl 0 rfl, HF.out.cellN 1 rfl 1 rfl⟩ (fun hHeld => ?_)
 clear hK K
 refine norm_ (a' := ?_) ?_ ?_
 rotate_left
 · show Act.put _ (some 15) _ = _
   simp only [Act.put, sa_, sb_, sc_]
   rfl
 refine on_ 11 (N := none) rfl rfl (fun K hK => ?_)
 have hf0 := HF.out.frozenN 0 rfl 0
 have hf1 := HF.out.frozenN 0 rfl 1
 have hd0 := HF.out.cellN 0 rfl 0 rfl
 have hd1 := HF.out.cellN 0 rfl 1 rfl
 refine skip_ (w1 := ?_) (by rfl) rfl ?_ ?_
 rotate_left
 · go_simp
   rfl
 have HE := Lib.hid (end_int HF.out (by simp) (by simp) (by omega) q4 Q2.out rfl)
 replace HF := Lib.hid ((HF.out.set (by omega) (by simp) 0 (.bool (decide (n < 0)))).set (by omega) (by simp) 1 (.slice A2 (dg n.natAbs).length c2))
 refine hK.out _ _ ⟨HF.out.cellN 2 rfl 0 rfl, HF.out.cellN 2 rfl 1 rfl, HF.out.cellN 1 rfl 0 rfl, HF.out.cellN 1 rfl 1 rfl⟩ (fun hHeld => ?_)
 clear hK K
 refine done_ (by kernel_rfl) ?_
 go_wp2
 obtain ⟨f1, f2⟩ := HE.out
 exact post_own f2 rfl rfl rfl Tryz.underlying41 rfl (by kernel_rfl) f1
set_option maxHeartbeats 1000000 in
set_option maxRecDepth 100000 in
theorem whole_Of (n : Int) (w : World) (h0 : -9223372036854775808 ≤ n) (h1 : n ≤ 9223372036854775807) :
 Calls Tryz.prog 62 #[.int .i64 n] w fun e w' => ToldI w n e w' := by
 have HF := Lib.hid ((Fr.refl w).box [.bool false, .slice none 0 0] 41)
 have hO := Lib.hid (fun (W : World) => nat_Of (if n < 0 then -n else n) W (by split <;> omega) (by split <;> omega))
 have hlen : (dg (if n < 0 then -n else n).toNat).length ≤ 1099511627776 := by
  have h2 : (dg (if n < 0 then -n else n).toNat).length ≤ 2 := dg_length_le (by show _ < (4294967296 : Int) ^ 2; split <;> omega)
  omega
 have habs : (if n < 0 then -n else n).toNat = n.natAbs := by split <;> omega
 have hN1 := Lib.hid (fun (W : World) (A' : Option Addr) (c' : Nat) (hr : Rn W A' (dg n.natAbs)) (hc : (dg n.natAbs).length ≤ c') (hn : n < 0) =>
  whole_signed A' c' (dg n.natAbs) (some ⟨W.heap.size, 0, none⟩) 1 [-1] (W.alloc (.cells #[.int .i64 (-1)] 3)) (Knd.Row.below ((Below.refl _ W).alloc (Nat.le_refl _) _) hr) (Lim_dg _) hc (by rw [← habs]; exact hlen)
   (Row.ints (Own.mk (w := W) [.int .i64 (-1)] 3)) (by simp) (by simp) (Sg.one (by omega)) n (by rw [pr_one, V_dg, if_pos (by omega)]; omega))
 have hN2 := Lib.hid (fun (W : World) (A' : Option Addr) (c' : Nat) (hr : Rn W A' (dg n.natAbs)) (hc : (dg n.natAbs).length ≤ c') (hn : 0 ≤ n) =>
  whole_signed A' c' (dg n.natAbs) none 0 [] W hr (Lim_dg _) hc (by rw [← habs]; exact hlen)
   (Knd.row_nil _ _ _) (by simp) (by simp) (fun i hi => by simp at hi) n (by rw [V_dg, if_neg (by simp [pr])]; omega))
 unfold Told at hO
 rw [habs] at hO
 clear habs hlen
 by_cases hn : n < 0
 · rw [if_pos hn] at hO
   have e1 : IntKind.u64.wrap n = n + 18446744073709551616 := by rw [IntKind.wrap_u64]; omega
   have e2 : IntKind.u64.wrap (-(n + 18446744073709551616)) = -n := by rw [IntKind.wrap_u64]; omega
   go_enter Tryz.func62, Tryz.ntmps62
   go_wp2_with fail
   refine (hO.out _).mono ?_
   rintro e W1 ⟨A1, c1, rfl, q1, q2, q3⟩
   replace HF := Lib.hid (HF.out.below q3)
   have Q2 := Lib.hid q2
   clear q2 q3
   replace HF := Lib.hid (HF.out.alloc (.cells #[.int .i64 (-1)] 3))
   go_wp2_with fail
   refine (hN1.out W1 A1 c1 Q2.out q1 hn).mono ?_
   rintro e W2 ⟨A2, c2, rfl, r1, r2, r3⟩
   replace HF := Lib.hid (HF.out.below r3)
   replace Q2 := Lib.hid r2
   clear r2 r3
   have hf0 := HF.out.frozenN 0 rfl 0
   have hf1 := HF.out.frozenN 0 rfl 1
   have hd0 := HF.out.cellN 0 rfl 0 rfl
   have hd1 := HF.out.cellN 0 rfl 1 rfl
   have HE := Lib.hid (end_int HF.out (by simp) (by simp) (by omega) r1 Q2.out rfl)
   generalize decide (n < 0) = b at HE ⊢
   go_wp2
   obtain ⟨f1, f2⟩ := HE.out
   exact post_own f2 rfl rfl rfl Tryz.underlying41 rfl (by kernel_rfl) f1
 · rw [if_neg hn] at hO
   have e1 : IntKind.u64.wrap n = n := by rw [IntKind.wrap_u64]; omega
   go_enter Tryz.func62, Tryz.ntmps62
   go_wp2_with fail
   refine (hO.out _).mono ?_
   rintro e W1 ⟨A1, c1, rfl, q1, q2, q3⟩
   replace HF := Lib.hid (HF.out.below q3)
   have Q2 := Lib.hid q2
   clear q2 q3
   go_wp2_with fail
   refine (hN2.out W1 A1 c1 Q2.out q1 (by omega)).mono ?_
   rintro e W2 ⟨A2, c2, rfl, r1, r2, r3⟩
   replace HF := Lib.hid (HF.out.below r3)
   replace Q2 := Lib.hid r2
   clear r2 r3
   have hf0 := HF.out.frozenN 0 rfl 0
   have hf1 := HF.out.frozenN 0 rfl 1
   have hd0 := HF.out.cellN 0 rfl 0 rfl
   have hd1 := HF.out.cellN 0 rfl 1 rfl
   have HE := Lib.hid (end_int HF.out (by simp) (by simp) (by omega) r1 Q2.out rfl)
   generalize decide (n < 0) = b at HE ⊢
   go_wp2
   obtain ⟨f1, f2⟩ := HE.out
   exact post_own f2 rfl rfl rfl Tryz.underlying41 rfl (by kernel_rfl) f1
theorem or_signs {m1 m2 : Int} (h1 : -1 ≤ m1 ∧ m1 ≤ 1) (h2 : -1 ≤ m2 ∧ m2 ≤ 1) : ∃ r1 r2, bits BinOp.or IntKind.i64 m1 m2 = r1 ∧ bits BinOp.or IntKind.i64 r1 1 = r2 ∧ (-1 ≤ r2 ∧ r2 ≤ 1) ∧ (r2 < 0 ↔ (m1 = -1 ∨ m2 = -1)) := by
 have h3 : m1 = -1 ∨ m1 = 0 ∨ m1 = 1 := by omega
 have h4 : m2 = -1 ∨ m2 = 0 ∨ m2 = 1 := by omega
 rcases h3 with rfl | rfl | rfl <;> rcases h4 with rfl | rfl | rfl <;> refine ⟨_, _, rfl, rfl, ?_, ?_⟩ <;> decide
theorem add1 {s t : Bool} {x y : Int} (hx : 0 ≤ x) (hy : 0 ≤ y) (hp : 0 ≤ sgn (iv s x) * sgn (iv t y)) : iv s x + iv t y = if sgn (iv s x) = -1 ∨ sgn (iv t y) = -1 then -(x + y) else x + y := by
 rcases Int.lt_or_eq_of_le hx with h2 | h2
 · rcases Int.lt_or_eq_of_le hy with h3 | h3
   · cases s <;> cases t <;> simp [iv, sgn, h2, h3, Int.not_lt.2 hx, Int.not_lt.2 hy] at hp ⊢ <;> omega
   · subst h3; cases s <;> cases t <;> simp [iv, sgn, h2, Int.not_lt.2 hx]
 · subst h2
   rcases Int.lt_or_eq_of_le hy with h3 | h3
   · cases s <;> cases t <;> simp [iv, sgn, h3, Int.not_lt.2 hy]
   · subst h3; cases s <;> cases t <;> simp [iv, sgn]
theorem add2 {s t : Bool} {x y : Int} (hx : 0 ≤ x) (hy : 0 ≤ y) (hp : sgn (iv s x) * sgn (iv t y) < 0) : (iv s x + iv t y = if sgn (iv s x) < 0 then -(x - y) else x - y) ∧ (iv s x + iv t y = if sgn (iv t y) < 0 then -(y - x) else y - x) := by
 rcases Int.lt_or_eq_of_le hx with h2 | h2
 · rcases Int.lt_or_eq_of_le hy with h3 | h3
   · cases s <;> cases t <;> simp [iv, sgn, h2, h3, Int.not_lt.2 hx, Int.not_lt.2 hy] at hp ⊢ <;> omega
   · subst h3; cases t <;> simp [iv, sgn] at hp
 · subst h2; cases s <;> simp [iv, sgn] at hp
set_option maxHeartbeats 1000000 in
set_option maxRecDepth 100000 in
theorem whole_Add (s : Bool) (A : Option Addr) (c : Nat) (xs : List Int) (t : Bool) (B : Option Addr) (d : Nat) (ys : List Int) (w : World) (h : In w A c xs) (hm : xs.length ≤ 549755813887) (k : In w B d ys) (km : ys.length ≤ 549755813887) :
 Calls Tryz.prog 205 #[.agg #[.bool s, .slice A xs.length c], .agg #[.bool t, .slice B ys.length d]] w fun e w' => ToldI w (iv s (V xs) + iv t (V ys)) e w' := by
 have hS := Lib.hid (fun (W : World) (hb : Below w.heap.size w W) => whole_Sign s A c xs W (h.below hb).row h.lim h.cap (by omega))
 have hT := Lib.hid (fun (W : World) (hb : Below w.heap.size w W) => whole_Sign t B d ys W (k.below hb).row k.lim k.cap (by omega))
 have HF := Lib.hid ((((Fr.refl w).box [.bool s, .slice A xs.length c] 41).box [.bool t, .slice B ys.length d] 41).box [.bool false, .slice none 0 0] 41)
 have hsz : (w.alloc (.cells #[.bool s, .slice A xs.length c] 41)).heap.size = w.heap.size + 1 := by simp
 have hsz2 : ((w.alloc (.cells #[.bool s, .slice A xs.length c] 41)).alloc (.cells #[.bool t, .slice B ys.length d] 41)).heap.size = w.heap.size + 2 := by simp
 rw [show [Value.bool s, Value.slice A xs.length c].toArray = #[Value.bool s, Value.slice A xs.length c] from rfl, hsz, show [Value.bool t, Value.slice B ys.length d].toArray = #[Value.bool t, Value.slice B ys.length d] from rfl, hsz2] at HF
 clear hsz hsz2
 have hA := Lib.hid (fun (W : World) (hb : Below w.heap.size w W) => nat_Add A c xs B d ys W (h.below hb).row h.lim h.cap (by omega) (k.below hb).row k.lim k.cap (by omega))
 have hC := Lib.hid (fun (W : World) (hb : Below w.heap.size w W) => nat_Cmp A c xs B d ys W (h.below hb).row h.lim h.cap (by omega) (k.below hb).row k.lim k.cap (by omega))
 have hD1 := Lib.hid (fun (W : World) (hb : Below w.heap.size w W) => nat_Sub A c xs B d ys W (h.below hb).row h.lim h.cap (by omega) (k.below hb).row k.lim k.cap (by omega))
 have hD2 := Lib.hid (fun (W : World) (hb : Below w.heap.size w W) => nat_Sub B d ys A c xs W (k.below hb).row k.lim k.cap (by omega) (h.below hb).row h.lim h.cap (by omega))
 have hG := Lib.hid (fun (W : World) (A' : Option Addr) (c' : Nat) (z r : Int) (hz : 0 ≤ z ∧ z ≤ V xs + V ys) (hr : Rn W A' (dg z.toNat)) (hc : (dg z.toNat).length ≤ c') (hr1 : -1 ≤ r ∧ r ≤ 1) (n : Int) (hn : n = if r < 0 then -z else z) =>
  whole_signed A' c' (dg z.toNat) (some ⟨W.heap.size, 0, none⟩) 1 [r] (W.alloc (.cells #[.int .i64 r] 3)) (Knd.Row.below ((Below.refl _ W).alloc (Nat.le_refl _) _) hr) (Lim_dg _) hc
   (by
    have h1 := V_lt h.lim
    have h2 := V_lt k.lim
    have h3 : Bp xs.length ≤ Bp (xs.length + ys.length) := Bp_le (by omega)
    have h4 : Bp ys.length ≤ Bp (xs.length + ys.length) := Bp_le (by omega)
    have h5 := Bp_succ (xs.length + ys.length)
    have h6 := Bp_pos (xs.length + ys.length)
    have h7 : (dg z.toNat).length ≤ xs.length + ys.length + 1 := dg_length_le (by omega)
    omega)
   (Row.ints (Own.mk (w := W) [.int .i64 r] 3)) (by simp) (by simp) (Sg.one hr1) n (by rw [pr_one, V_dg, hn]; congr 1 <;> omega))
 have hx0 := V_nonneg h.lim
 have hy0 := V_nonneg k.lim
 have hs1 := sgn_bound (iv s (V xs))
 have hs2 := sgn_bound (iv t (V ys))
 have ha1 := Lib.hid (add1 (s := s) (t := t) hx0 hy0)
 have ha2 := Lib.hid (add2 (s := s) (t := t) hx0 hy0)
 generalize iv s (V xs) + iv t (V ys) = n at *
 generalize sgn (iv s (V xs)) = m1 at *
 generalize sgn (iv t (V ys)) = m2 at *
 clear h k
 go_enter Tryz.func205, Tryz.ntmps205
 go_wp2_with fail
 generalize ((w.alloc (Obj.cells #[Value.bool s, Value.slice A xs.length c] 41)).alloc (Obj.cells #[Value.bool t, Value.slice B ys.length d] 41)).alloc (Obj.cells #[Value.bool false, Value.slice none 0 0] 41) = W at *
 have HF_ := Lib.hid HF.out.drew
 clear HF
 have HF := HF_
 clear HF_
 refine start_ (n := 6) (S := fun w' => w'.cell? ⟨w.heap.size, 0, none⟩ = some (.bool s) ∧ w'.cell? ⟨w.heap.size, 1, none⟩ = some (.slice A xs.length c) ∧ w'.cell? ⟨w.heap.size + 1, 0, none⟩ = some (.bool t) ∧ w'.cell? ⟨w.heap.size + 1, 1, none⟩ = some (.slice B ys.length d)) (ds := []) #[false, false, false, false, false, false] (by kernel_rfl) rfl rfl ⟨HF.out.cellN 2 rfl 0 rfl, HF.out.cellN 2 rfl 1 rfl, HF.out.cellN 1 rfl 0 rfl, HF.out.cellN 1 rfl 1 rfl⟩ (fun hHeld => ?_)
 generalize World.drew _ = W at *
 refine tk_ (v := ?_) (a' := ?_) 0 (some 11) rfl rfl ?_ hHeld ?_ ?_
 rotate_left
 · rintro w' ⟨s0, s1, s2, s3⟩; go_simp; with_reducible rfl
 rotate_left
 · simp only [Act.put, sa_, sb_, sc_]
   rfl
 refine tk_ (v := ?_) (a' := ?_) 2 (some 13) rfl rfl ?_ hHeld ?_ ?_
 rotate_left
 · rintro w' ⟨s0, s1, s2, s3⟩; go_simp; with_reducible rfl
 rotate_left
 · simp only [Act.put, sa_, sb_, sc_]
   rfl
 refine on_ 1 (N := (some 12)) rfl rfl (fun K hK => ?_)
 refine goes_ Tryz.func127 (by kernel_rfl) rfl #[.agg #[.bool s, .slice A xs.length c]] (by rfl) rfl rfl (by (try simp only [List.map_toArray, List.map_cons, List.map_nil]); first | done | rfl) ?_
 refine (hS.out W HF.out.bel).mono ?_
 rintro e W1 ⟨rfl, hb⟩
 refine ⟨_, rfl, ?_⟩
 replace HF := Lib.hid (HF.out.below hb)
 clear hb
 refine hK.out _ _ ⟨HF.out.cellN 2 rfl 0 rfl, HF.out.cellN 2 rfl 1 rfl, HF.out.cellN 1 rfl 0 rfl, HF.out.cellN 1 rfl 1 rfl⟩ (fun hHeld => ?_)
 clear hK K
 refine norm_ (a' := ?_) ?_ ?_
 rotate_left
 · show Act.put _ (some 12) _ = _
   simp only [Act.put, sa_, sb_, sc_]
   rfl
 refine on_ 3 (N := (some 14)) rfl rfl (fun K hK => ?_)
 refine goes_ Tryz.func127 (by kernel_rfl) rfl #[.agg #[.bool t, .slice B ys.length d]] (by rfl) rfl rfl (by (try simp only [List.map_toArray, List.map_cons, List.map_nil]); first | done | rfl) ?_
 refine (hT.out W1 HF.out.bel).mono ?_
 rintro e W2 ⟨rfl, hb⟩
 refine ⟨_, rfl, ?_⟩
 replace HF := Lib.hid (HF.out.below hb)
 clear hb
 refine hK.out _ _ ⟨HF.out.cellN 2 rfl 0 rfl, HF.out.cellN 2 rfl 1 rfl, HF.out.cellN 1 rfl 0 rfl, HF.out.cellN 1 rfl 1 rfl⟩ (fun hHeld => ?_)
 clear hK K
 refine norm_ (a' := ?_) ?_ ?_
 rotate_left
 · show Act.put _ (some 14) _ = _
   simp only [Act.put, sa_, sb_, sc_]
   rfl
 refine pu_ (v := ?_) (a' := ?_) 4 (some 5) rfl rfl ?_ ?_ ?_
 rotate_left; · intro w'; go_simp; with_reducible rfl
 rotate_left
 · simp only [Act.put, sa_, sb_, sc_]
   rfl
 refine pu_ (v := ?_) (a' := ?_) 5 (some 6) rfl rfl ?_ ?_ ?_
 rotate_left; · intro w'; go_simp; with_reducible rfl
 rotate_left
 · simp only [Act.put, sa_, sb_, sc_]
   rfl
 refine done_ (by kernel_rfl) ?_
 clear hS hT hHeld
 obtain ⟨p, hp⟩ : ∃ p, p = m1 * m2 := ⟨_, rfl⟩
 have hpb : -1 ≤ p ∧ p ≤ 1 := by
  have h8 : m1 = -1 ∨ m1 = 0 ∨ m1 = 1 := by omega
  rcases h8 with rfl | rfl | rfl <;> omega
 have hpw : IntKind.i64.wrap (m1 * m2) = p := by rw [← hp, i64w (by omega) (by omega)]
 have HP := Lib.hid hp
 clear hp
 have hc0 := HF.out.cellN 2 rfl 0 rfl
 have hc1 := HF.out.cellN 2 rfl 1 rfl
 have hc2 := HF.out.cellN 1 rfl 0 rfl
 have hc3 := HF.out.cellN 1 rfl 1 rfl
 by_cases hp0 : 0 ≤ p
 · go_wp2_with fail
   refine (hA.out W2 HF.out.bel).mono ?_
   rintro e W3 ⟨A1, c1, rfl, q1, q2, q3⟩
   replace HF := Lib.hid (HF.out.below q3)
   have Q2 := Lib.hid q2
   clear q2 q3
   obtain ⟨r1, r2, e1, e2, hr, hr2⟩ := or_signs hs1 hs2
   have HR := Lib.hid hr2
   have hn := Lib.hid (ha1.out (by rw [← HP.out]; exact hp0))
   clear hr2 ha1 ha2
   go_wp2_with fail
   replace HF := Lib.hid (HF.out.alloc (.cells #[.int .i64 r2] 3))
   refine (hG.out W3 A1 c1 (V xs + V ys) r2 ⟨by omega, by omega⟩ Q2.out q1 hr n (by rw [hn.out]; simp only [HR.out])).mono ?_
   rintro e W9 ⟨A2, c2, rfl, r4, r5, r3⟩
   replace HF := Lib.hid (HF.out.below r3)
   replace Q2 := Lib.hid r5
   clear r5 r3
   have hf0 := HF.out.frozenN 0 rfl 0
   have hf1 := HF.out.frozenN 0 rfl 1
   have hd0 := HF.out.cellN 0 rfl 0 rfl
   have hd1 := HF.out.cellN 0 rfl 1 rfl
   have HE := Lib.hid (end_int HF.out (by simp) (by simp) (by omega) r4 Q2.out rfl)
   generalize decide (n < 0) = b at HE ⊢
   go_wp2
   obtain ⟨f1, f2⟩ := HE.out
   exact post_own f2 rfl rfl rfl Tryz.underlying41 rfl (by kernel_rfl) f1
 · have hmm := ha2.out (by rw [← HP.out]; omega)
   have hn1 := Lib.hid hmm.1
   have hn2 := Lib.hid hmm.2
   clear hmm ha1 ha2
   go_wp2_with fail
   refine (hC.out W2 HF.out.bel).mono ?_
   rintro e W3 ⟨rfl, hb⟩
   replace HF := Lib.hid (HF.out.below hb)
   clear hb hc0 hc1 hc2 hc3
   have hc0 := HF.out.cellN 2 rfl 0 rfl
   have hc1 := HF.out.cellN 2 rfl 1 rfl
   have hc2 := HF.out.cellN 1 rfl 0 rfl
   have hc3 := HF.out.cellN 1 rfl 1 rfl
   have hsg : 0 ≤ sgn (V xs - V ys) ↔ V ys ≤ V xs := by unfold sgn; repeat' split <;> omega
   generalize sgn (V xs - V ys) = q at *
   by_cases hle : V ys ≤ V xs
   · have hq : 0 ≤ q := hsg.2 hle
     clear hsg
     go_wp2_with fail
     refine (hD1.out W3 HF.out.bel hle).mono ?_
     rintro e W4 ⟨A1, c1, rfl, q1, q2, q3⟩
     replace HF := Lib.hid (HF.out.below q3)
     have Q2 := Lib.hid q2
     clear q2 q3
     go_wp2_with fail
     replace HF := Lib.hid (HF.out.alloc (.cells #[.int .i64 m1] 3))
     refine (hG.out W4 A1 c1 (V xs - V ys) m1 ⟨by omega, by omega⟩ Q2.out q1 hs1 n hn1.out).mono ?_
     rintro e W9 ⟨A2, c2, rfl, r1, r2, r3⟩
     replace HF := Lib.hid (HF.out.below r3)
     replace Q2 := Lib.hid r2
     clear r2 r3
     have hf0 := HF.out.frozenN 0 rfl 0
     have hf1 := HF.out.frozenN 0 rfl 1
     have hd0 := HF.out.cellN 0 rfl 0 rfl
     have hd1 := HF.out.cellN 0 rfl 1 rfl
     have HE := Lib.hid (end_int HF.out (by simp) (by simp) (by omega) r1 Q2.out rfl)
     generalize decide (n < 0) = b at HE ⊢
     go_wp2
     obtain ⟨f1, f2⟩ := HE.out
     exact post_own f2 rfl rfl rfl Tryz.underlying41 rfl (by kernel_rfl) f1
   · have hq : ¬ 0 ≤ q := fun h => hle (hsg.1 h)
     clear hsg
     go_wp2_with fail
     refine (hD2.out W3 HF.out.bel (by omega)).mono ?_
     rintro e W4 ⟨A1, c1, rfl, q1, q2, q3⟩
     replace HF := Lib.hid (HF.out.below q3)
     have Q2 := Lib.hid q2
     clear q2 q3
     go_wp2_with fail
     replace HF := Lib.hid (HF.out.alloc (.cells #[.int .i64 m2] 3))
     refine (hG.out W4 A1 c1 (V ys - V xs) m2 ⟨by omega, by omega⟩ Q2.out q1 hs2 n hn2.out).mono ?_
     rintro e W9 ⟨A2, c2, rfl, r1, r2, r3⟩
     replace HF := Lib.hid (HF.out.below r3)
     replace Q2 := Lib.hid r2
     clear r2 r3
     have hf0 := HF.out.frozenN 0 rfl 0
     have hf1 := HF.out.frozenN 0 rfl 1
     have hd0 := HF.out.cellN 0 rfl 0 rfl
     have hd1 := HF.out.cellN 0 rfl 1 rfl
     have HE := Lib.hid (end_int HF.out (by simp) (by simp) (by omega) r1 Q2.out rfl)
     generalize decide (n < 0) = b at HE ⊢
     go_wp2
     obtain ⟨f1, f2⟩ := HE.out
     exact post_own f2 rfl rfl rfl Tryz.underlying41 rfl (by kernel_rfl) f1
def ToldQ (w : World) (q : Rat) (e : Ending) (w' : World) : Prop :=
 ∃ A c B d, e = .returned (.agg #[.bool (decide (q.num < 0)), .slice A (dg q.num.natAbs).length c, .slice B (dg q.den).length d]) ∧ In w' A c (dg q.num.natAbs) ∧ In w' B d (dg q.den) ∧ Below w.heap.size w w'
def rv (s : Bool) (xs ys : List Int) : Rat := mkRat (iv s (V xs)) (V ys).toNat
theorem rv_can (q : Rat) : rv (decide (q.num < 0)) (dg q.num.natAbs) (dg q.den) = q := by
 unfold rv; rw [iv_can, V_dg, Int.toNat_natCast, Rat.mkRat_self]
theorem In.far {w : World} {A : Option Addr} {c : Nat} {xs : List Int} {g : Nat} {cs : List Value} (h : In w A c xs) (ho : Own w g cs) (hn : ∀ x, Value.int .u32 x ∉ cs) (i : Nat) (v : Value) : In (w.setCell ⟨g, i, none⟩ v) A c xs := ⟨h.row.far ho hn i v, h.lim, h.cap⟩
theorem end_rat {w W : World} {bs : List (Nat × List Value)} {g : Nat} {q : Rat} {A : Option Addr} {c : Nat} {B : Option Addr} {d : Nat} {x : Bool} {y z : Value} (h : Fr w W ((g, [.bool x, y, z]) :: bs)) (hy : ∀ u, Value.int .u32 u ≠ y) (hz : ∀ u, Value.int .u32 u ≠ z) (hg : w.heap.size ≤ g)
 (hr : In W A c (dg q.num.natAbs)) (hd : In W B d (dg q.den)) {W' : World}
 (hW : W' = ((W.setCell ⟨g, 0, none⟩ (.bool (decide (q.num < 0)))).setCell ⟨g, 1, none⟩ (.slice A (dg q.num.natAbs).length c)).setCell ⟨g, 2, none⟩ (.slice B (dg q.den).length d)) :
 ToldQ w q (.returned (.agg #[.bool (decide (q.num < 0)), .slice A (dg q.num.natAbs).length c, .slice B (dg q.den).length d])) W' ∧ Own W' g [.bool (decide (q.num < 0)), .slice A (dg q.num.natAbs).length c, .slice B (dg q.den).length d] := by
 subst hW
 have ho := h.own (List.mem_cons_self ..)
 have n0 : ∀ u, Value.int .u32 u ∉ [.bool x, y, z] := fun u hu => by
  rcases List.mem_cons.1 hu with h1 | h1
  · cases h1
  · rcases List.mem_cons.1 h1 with h2 | h2
    · exact hy u h2
    · rcases List.mem_cons.1 h2 with h3 | h3
      · exact hz u h3
      · cases h3
 have n1 : ∀ u, Value.int .u32 u ∉ [.bool (decide (q.num < 0)), y, z] := fun u hu => by
  rcases List.mem_cons.1 hu with h1 | h1
  · cases h1
  · exact n0 u (List.mem_cons_of_mem _ h1)
 have n2 : ∀ u, Value.int .u32 u ∉ [.bool (decide (q.num < 0)), .slice A (dg q.num.natAbs).length c, z] := fun u hu => by
  rcases List.mem_cons.1 hu with h1 | h1
  · cases h1
  · rcases List.mem_cons.1 h1 with h2 | h2
    · cases h2
    · exact n0 u (List.mem_cons_of_mem _ (List.mem_cons_of_mem _ h2))
 exact ⟨⟨A, c, B, d, rfl, ((hr.far ho n0 0 _).far (ho.set 0 _) n1 1 _).far ((ho.set 0 _).set 1 _) n2 2 _, ((hd.far ho n0 0 _).far (ho.set 0 _) n1 1 _).far ((ho.set 0 _).set 1 _) n2 2 _, ((h.1.setCell hg _).setCell hg _).setCell hg _⟩, ((ho.set 0 _).set 1 _).set 2 _⟩
theorem In.put3 {w : World} {A : Option Addr} {c : Nat} {xs : List Int} {g : Nat} {x y z a b : Value} (h : In w A c xs) (ho : Own w g [x, y, z]) (n0 : ∀ u, Value.int .u32 u ∉ [x, y, z]) (n1 : ∀ u, Value.int .u32 u ∉ [a, y, z]) (n2 : ∀ u, Value.int .u32 u ∉ [a, b, z]) (v : Value) :
 In (((w.setCell ⟨g, 0, none⟩ a).setCell ⟨g, 1, none⟩ b).setCell ⟨g, 2, none⟩ v) A c xs :=
 ((h.far ho n0 0 _).far (ho.set 0 _) n1 1 _).far ((ho.set 0 _).set 1 _) n2 2 _
theorem In.put2 {w : World} {A : Option Addr} {c : Nat} {xs : List Int} {g : Nat} {x y a : Value} (h : In w A c xs) (ho : Own w g [x, y]) (n0 : ∀ u, Value.int .u32 u ∉ [x, y]) (n1 : ∀ u, Value.int .u32 u ∉ [a, y]) (v : Value) :
 In ((w.setCell ⟨g, 0, none⟩ a).setCell ⟨g, 1, none⟩ v) A c xs :=
 (h.far ho n0 0 _).far (ho.set 0 _) n1 1 _
theorem Fr.boxEnd {w W : World} {bs : List (Nat × List Value)} (h : Fr w W bs) (cs : List Value) (t : TypeId) : Fr w (W.alloc (.cells cs.toArray t (0, 0))) (bs ++ [(W.heap.size, cs)]) :=
 ⟨(h.alloc _).1, fun p hp => by
   rcases List.mem_append.1 hp with hp | hp
   · exact (h.alloc _).2 p hp
   · obtain rfl := List.mem_singleton.1 hp
     exact Own.mk _ _⟩
theorem Fr.put3 {w W : World} {bs : List (Nat × List Value)} (h : Fr w W bs) {g : Nat} {x y z : Value} (k : Nat) (hk : bs[k]? = some (g, [x, y, z])) (hg : w.heap.size ≤ g) (hn : ∀ p ∈ bs.eraseIdx k, p.1 ≠ g) (a b c : Value) :
 Fr w (((W.setCell ⟨g, 0, none⟩ a).setCell ⟨g, 1, none⟩ b).setCell ⟨g, 2, none⟩ c) (bs.set k (g, [a, b, c])) := by
 have hlt : k < bs.length := (List.getElem?_eq_some_iff.1 hk).1
 have e : ∀ (bs : List (Nat × List Value)) (p : Nat × List Value), (bs.set k p).eraseIdx k = bs.eraseIdx k := fun bs p => by rw [List.eraseIdx_set_eq]
 have h1 := h.setN k hk hg hn 0 a
 have h2 := h1.setN k (by rw [List.getElem?_set_self hlt]) hg (by rw [e]; exact hn) 1 b
 have h3 := h2.setN k (by rw [List.getElem?_set_self (by simpa using hlt)]) hg (by rw [e, e]; exact hn) 2 c
 rw [List.set_set, List.set_set] at h3
 exact h3
theorem Fr.put2 {w W : World} {bs : List (Nat × List Value)} (h : Fr w W bs) {g : Nat} {x y : Value} (k : Nat) (hk : bs[k]? = some (g, [x, y])) (hg : w.heap.size ≤ g) (hn : ∀ p ∈ bs.eraseIdx k, p.1 ≠ g) (a b : Value) :
 Fr w ((W.setCell ⟨g, 0, none⟩ a).setCell ⟨g, 1, none⟩ b) (bs.set k (g, [a, b])) := by
 have hlt : k < bs.length := (List.getElem?_eq_some_iff.1 hk).1
 have e : ∀ (bs : List (Nat × List Value)) (p : Nat × List Value), (bs.set k p).eraseIdx k = bs.eraseIdx k := fun bs p => by rw [List.eraseIdx_set_eq]
 have h1 := h.setN k hk hg hn 0 a
 have h2 := h1.setN k (by rw [List.getElem?_set_self hlt]) hg (by rw [e]; exact hn) 1 b
 rw [List.set_set] at h2
 exact h2
theorem made_q {s : Bool} {x y g : Nat} (hy : 0 < y) (hg : g = Nat.gcd x y) : (mkRat (iv s x) y).num = iv s ((x / g : Nat) : Int) ∧ (mkRat (iv s x) y).den = y / g := by
 have hgx : g ∣ x := hg ▸ Nat.gcd_dvd_left x y
 have hna : (iv s (x : Int)).natAbs = x := by unfold iv; split <;> omega
 constructor
 · rw [Rat.num_mkRat, if_neg (by omega), hna, Nat.gcd_comm, ← hg]
   unfold iv
   split
   · rw [Int.neg_ediv_of_dvd (Int.natCast_dvd_natCast.2 hgx)]; simp
   · simp
 · rw [Rat.den_mkRat, if_neg (by omega), hna, Nat.gcd_comm, ← hg]
set_option maxHeartbeats 1000000 in
set_option maxRecDepth 100000 in
theorem ratio_made (s : Bool) (A : Option Addr) (c : Nat) (xs : List Int) (B : Option Addr) (d : Nat) (ys : List Int) (w : World) (h : In w A c xs) (hm : xs.length ≤ 549755813888) (k : In w B d ys) (km : ys.length ≤ 549755813888) (hy : 0 < V ys) :
 Calls Tryz.prog 138 #[.agg #[.bool s, .slice A xs.length c], .slice B ys.length d] w fun e w' => ToldQ w (rv s xs ys) e w' := by
 have hx := V_nonneg h.lim
 have lx := dg_len_of_V h.lim
 have ly := dg_len_of_V k.lim
 have hGc := Lib.hid (fun (W : World) (hb : Below w.heap.size w W) => nat_Gcd A c xs B d ys W (h.below hb).row h.lim h.cap hm (k.below hb).row k.lim k.cap km)
 have hD1 := Lib.hid (fun (W : World) (hb : Below w.heap.size w W) (A' : Option Addr) (c' g : Nat) (hg : In W A' c' (dg g)) (hl : (dg g).length ≤ 549755813888) (h0 : 0 < g) => nat_Div A c xs A' c' (dg g) W (h.below hb).row h.lim h.cap hm hg.row hg.lim hg.cap hl (by rw [V_dg]; omega))
 have hD2 := Lib.hid (fun (W : World) (hb : Below w.heap.size w W) (A' : Option Addr) (c' g : Nat) (hg : In W A' c' (dg g)) (hl : (dg g).length ≤ 549755813888) (h0 : 0 < g) => nat_Div B d ys A' c' (dg g) W (k.below hb).row k.lim k.cap km hg.row hg.lim hg.cap hl (by rw [V_dg]; omega))
 have hgp : 0 < Nat.gcd (V xs).toNat (V ys).toNat := Nat.gcd_pos_of_pos_right _ (by omega)
 have hgl : Nat.gcd (V xs).toNat (V ys).toNat ≤ (V ys).toNat := Nat.gcd_le_right _ (by omega)
 obtain ⟨q, hq⟩ : ∃ q, q = rv s xs ys := ⟨_, rfl⟩
 have hnd := made_q (s := s) (x := (V xs).toNat) (y := (V ys).toNat) (by omega) rfl
 have hqe : mkRat (iv s ((V xs).toNat : Int)) (V ys).toNat = q := by rw [hq]; unfold rv; congr 2; omega
 rw [hqe] at hnd
 rw [← hq]
 have hqx : V xs = ((V xs).toNat : Int) := by omega
 have hqy : V ys = ((V ys).toNat : Int) := by omega
 unfold ToldDiv at hD1 hD2
 unfold Told at hGc
 rw [hqx] at hD1
 rw [hqy] at hD2
 simp only [V_dg, ← Int.natCast_ediv, Int.toNat_natCast] at hD1 hD2 hGc
 clear hqe hqx hqy hq hx hy h k
 generalize (V xs).toNat = X at *
 generalize (V ys).toNat = Y at *
 have hla : (dg (X / X.gcd Y)).length ≤ 549755813888 := Nat.le_trans (dg_length_mono (Nat.div_le_self _ _)) (by omega)
 have hlg : (dg (X.gcd Y)).length ≤ 549755813888 := Nat.le_trans (dg_length_mono hgl) (by omega)
 generalize X.gcd Y = g at *
 have hN := Lib.hid (fun (W : World) (A' : Option Addr) (c' : Nat) (hr : In W A' c' (dg (X / g))) => whole_Norm s A' c' (dg (X / g)) W hr.row hr.lim hr.cap (by omega))
 rw [V_dg, ← hnd.1] at hN
 have HND := Lib.hid hnd.2
 clear hnd
 have HF := Lib.hid (((Fr.refl w).box [.bool s, .slice A xs.length c] 41).box [.bool false, .slice none 0 0, .slice none 0 0] 43)
 have hsz : (w.alloc (.cells #[.bool s, .slice A xs.length c] 41)).heap.size = w.heap.size + 1 := by simp
 rw [show [Value.bool s, Value.slice A xs.length c].toArray = #[Value.bool s, Value.slice A xs.length c] from rfl, hsz] at HF
 clear hsz
 go_enter Tryz.func138, Tryz.ntmps138
 go_wp2_with fail
 refine (hGc.out _ HF.out.bel).mono ?_
 rintro e W1 ⟨A1, c1, rfl, q1, q2, q3⟩
 replace HF := Lib.hid (HF.out.below q3)
 have Q1 := Lib.hid (In.dg q2 q1)
 clear q1 q2 q3
 have hc1 := HF.out.cellN 1 rfl 1 rfl
 go_wp2_with fail
 refine (hD1.out W1 HF.out.bel A1 c1 g Q1.out hlg hgp).mono ?_
 rintro e W2 ⟨A2, c2, A3, c3, rfl, q1, q2, q3, q4, q5⟩
 replace HF := Lib.hid (HF.out.below q5)
 replace Q1 := Lib.hid (Q1.out.below q5)
 have Q2 := Lib.hid (In.dg q3 q1)
 clear q1 q2 q3 q4 q5 hc1
 go_wp2_with fail
 refine (hD2.out W2 HF.out.bel A1 c1 g Q1.out hlg hgp).mono ?_
 rintro e W3 ⟨A4, c4, A5, c5, rfl, q1, q2, q3, q4, q5⟩
 replace HF := Lib.hid (HF.out.below q5)
 replace Q2 := Lib.hid (Q2.out.below q5)
 have Q3 := Lib.hid (In.dg q3 q1)
 clear q1 q2 q3 q4 q5 Q1
 have hc0 := HF.out.cellN 1 rfl 0 rfl
 go_wp2_with fail
 refine (hN.out W3 A2 c2 Q2.out).mono ?_
 rintro e W4 ⟨A6, c6, rfl, q1, q2, q3⟩
 replace HF := Lib.hid (HF.out.below q3)
 replace Q3 := Lib.hid (Q3.out.below q3)
 replace Q2 := Lib.hid (In.dg q2 q1)
 clear q1 q2 q3 hc0
 rw [← HND.out] at Q3 ⊢
 have hf0 := HF.out.frozenN 0 rfl 0
 have hf1 := HF.out.frozenN 0 rfl 1
 have hf2 := HF.out.frozenN 0 rfl 2
 have hd0 := HF.out.cellN 0 rfl 0 rfl
 have hd1 := HF.out.cellN 0 rfl 1 rfl
 have hd2 := HF.out.cellN 0 rfl 2 rfl
 have HE := Lib.hid (end_rat HF.out (by simp) (by simp) (by omega) Q2.out Q3.out rfl)
 generalize decide (q.num < 0) = b at HE ⊢
 go_wp2
 obtain ⟨f1, f2⟩ := HE.out
 exact post_own f2 rfl rfl rfl Tryz.underlying43 rfl (by kernel_rfl) f1
theorem In.one {w : World} {g : Nat} {x : Int} (h : w.cell? ⟨g, 0, none⟩ = some (.int .u32 x)) (h0 : 0 ≤ x) (h1 : x < 4294967296) : In w (some ⟨g, 0, none⟩) 1 [x] := ⟨Rn.one h, Lim.cons h0 h1 Lim.nil, Nat.le_refl _⟩
theorem dg_one : dg 1 = [1] := by rw [dg_pos (by omega)]; simp [dg_zero]
set_option maxHeartbeats 1000000 in
set_option maxRecDepth 100000 in
theorem ratio_Norm (s : Bool) (A : Option Addr) (c : Nat) (xs : List Int) (B : Option Addr) (d : Nat) (ys : List Int) (w : World) (h : In w A c xs) (hm : xs.length ≤ 549755813888) (k : In w B d ys) (km : ys.length ≤ 549755813888) :
 Calls Tryz.prog 67 #[.agg #[.bool s, .slice A xs.length c, .slice B ys.length d]] w fun e w' => ToldQ w (rv s xs ys) e w' := by
 have hB := Lib.hid (fun (W : World) (hb : Below w.heap.size w W) => nat_Bits B d ys W (k.below hb).row k.lim k.cap km)
 have hM := Lib.hid (fun (W : World) (hb : Below w.heap.size w W) (hy : 0 < V ys) => ratio_made s A c xs B d ys W (h.below hb) hm (k.below hb) km hy)
 have hy := V_nonneg k.lim
 obtain ⟨q, hq⟩ : ∃ q, q = rv s xs ys := ⟨_, rfl⟩
 rw [← hq] at hM ⊢
 have hq0 := Lib.hid (show V ys = 0 → q = 0 from fun h0 => by rw [hq, rv, h0]; exact Rat.mkRat_zero _)
 clear hq h k
 generalize V ys = Y at *
 have HF := Lib.hid (((Fr.refl w).box [.bool s, .slice A xs.length c, .slice B ys.length d] 43).box [.bool false, .slice none 0 0, .slice none 0 0] 43)
 have hsz : (w.alloc (.cells #[.bool s, .slice A xs.length c, .slice B ys.length d] 43)).heap.size = w.heap.size + 1 := by simp
 rw [show [Value.bool s, Value.slice A xs.length c, Value.slice B ys.length d].toArray = #[Value.bool s, Value.slice A xs.length c, Value.slice B ys.length d] from rfl, hsz] at HF
 clear hsz
 go_enter Tryz.func67, Tryz.ntmps67
 go_wp2_with fail
 refine (hB.out _ HF.out.bel).mono ?_
 rintro e W1 ⟨bb, rfl, b0, b1, b2⟩
 replace HF := Lib.hid (HF.out.below b2)
 clear b2
 by_cases hbb : bb = 0
 · have hqz := hq0.out (b1.1 hbb)
   subst hqz
   subst hbb
   have HG := Lib.hid (HF.out.box [.int .u32 1] 133)
   have hf0 := HG.out.frozenN 1 rfl 0
   have hf1 := HG.out.frozenN 1 rfl 1
   have hf2 := HG.out.frozenN 1 rfl 2
   have hd0 := HG.out.cellN 1 rfl 0 rfl
   have hd1 := HG.out.cellN 1 rfl 1 rfl
   have hd2 := HG.out.cellN 1 rfl 2 rfl
   have e0 : dg (0 : Rat).num.natAbs = [] := dg_zero
   have e1 : dg (0 : Rat).den = [1] := dg_one
   have HE := Lib.hid (end_rat (q := 0) (A := none) (c := 0) (B := some ⟨W1.heap.size, 0, none⟩) (d := 1) (HF.out.alloc (.cells #[.int .u32 1] 133)) (by simp) (by simp) (by omega) (by rw [e0]; exact In.nil _ _ _) (by rw [e1]; exact In.one (HG.out.cellN 0 rfl 0 rfl) (by omega) (by omega)) rfl)
   rw [e0, e1, show decide ((0 : Rat).num < 0) = false from rfl] at HE
   clear e0 e1 hB hM b1 hq0
   go_wp2
   obtain ⟨f1, f2⟩ := HE.out
   exact post_own f2 rfl rfl rfl Tryz.underlying43 rfl (by kernel_rfl) f1
 · have hY : 0 < Y := by
    rcases Int.lt_or_eq_of_le hy with h1 | h1
    · exact h1
    · exact absurd (b1.2 h1.symm) hbb
   have hbe : (bb == 0) = false := by simpa using hbb
   clear b1 hbb hq0
   have hc0 := HF.out.cellN 1 rfl 0 rfl
   have hc1 := HF.out.cellN 1 rfl 1 rfl
   have hc2 := HF.out.cellN 1 rfl 2 rfl
   go_wp2_with fail
   refine (hM.out W1 HF.out.bel hY).mono ?_
   rintro e W2 ⟨A2, c2, B2, d2, rfl, q1, q2, q3⟩
   replace HF := Lib.hid (HF.out.below q3)
   have Q1 := Lib.hid q1
   have Q2 := Lib.hid q2
   clear q1 q2 q3 hc0 hc1 hc2
   have hf0 := HF.out.frozenN 0 rfl 0
   have hf1 := HF.out.frozenN 0 rfl 1
   have hf2 := HF.out.frozenN 0 rfl 2
   have hd0 := HF.out.cellN 0 rfl 0 rfl
   have hd1 := HF.out.cellN 0 rfl 1 rfl
   have hd2 := HF.out.cellN 0 rfl 2 rfl
   have HE := Lib.hid (end_rat HF.out (by simp) (by simp) (by omega) Q1.out Q2.out rfl)
   generalize decide (q.num < 0) = b at HE ⊢
   go_wp2
   obtain ⟨f1, f2⟩ := HE.out
   exact post_own f2 rfl rfl rfl Tryz.underlying43 rfl (by kernel_rfl) f1
theorem rv_len (s : Bool) {xs ys : List Int} (h : Lim xs) (k : Lim ys) : (dg (rv s xs ys).num.natAbs).length ≤ xs.length ∧ (dg (rv s xs ys).den).length ≤ ys.length + 1 := by
 have hx := V_nonneg h
 have hy := V_nonneg k
 by_cases h0 : V ys = 0
 · have : rv s xs ys = 0 := by rw [rv, h0]; exact Rat.mkRat_zero _
   rw [this]
   refine ⟨?_, ?_⟩
   · show (dg 0).length ≤ _; rw [dg_zero]; exact Nat.zero_le _
   · show (dg 1).length ≤ _; rw [dg_one]; simp
 · have hnd := made_q (s := s) (x := (V xs).toNat) (y := (V ys).toNat) (by omega) rfl
   have hqe : mkRat (iv s ((V xs).toNat : Int)) (V ys).toNat = rv s xs ys := by unfold rv; congr 2; omega
   rw [hqe] at hnd
   have lx := dg_len_of_V h
   have ly := dg_len_of_V k
   constructor
   · rw [hnd.1]
     have e : ∀ m : Nat, (iv s (m : Int)).natAbs = m := fun m => by unfold iv; split <;> omega
     rw [e]
     exact Nat.le_trans (dg_length_mono (Nat.div_le_self _ _)) lx
   · rw [hnd.2]
     exact Nat.le_trans (dg_length_mono (Nat.div_le_self _ _)) (by omega)
theorem run_num (a b c : Value) (w : World) : (Instr.field 43 (.agg #[a, b, c]) 0).run Tryz.prog w = .ok (.agg #[a, b]) w := by
 have hu := Tryz.underlying43
 have hu2 := Tryz.underlying41
 have hi : (Tryz.prog.info? 41).map (·.size) = some 2 := by kernel_rfl
 obtain ⟨i, h1, h2⟩ := Option.map_eq_some_iff.1 hi
 simp [Instr.field, underlying, part, isAgg, sizeOf, asAgg, Sem.run_bind, Result.andThen, hu, hu2, go_sem]
 rfl
set_option maxHeartbeats 1000000 in
set_option maxRecDepth 100000 in
theorem ratio_Sign (s : Bool) (A : Option Addr) (c : Nat) (xs : List Int) (B : Option Addr) (d : Nat) (ys : List Int) (w : World) (h : In w A c xs) (hm : xs.length ≤ 549755813888) (k : In w B d ys) (km : ys.length ≤ 549755813888) :
 Calls Tryz.prog 66 #[.agg #[.bool s, .slice A xs.length c, .slice B ys.length d]] w fun e w' => e = .returned (.int .i64 (sgn (rv s xs ys).num)) ∧ Below w.heap.size w w' := by
 have hN := Lib.hid (fun (W : World) (hb : Below w.heap.size w W) => ratio_Norm s A c xs B d ys W (h.below hb) hm (k.below hb) km)
 have hl := (rv_len s h.lim k.lim).1
 generalize rv s xs ys = q at *
 have hS := Lib.hid (fun (W : World) (A' : Option Addr) (c' : Nat) (hr : In W A' c' (dg q.num.natAbs)) => whole_Sign (decide (q.num < 0)) A' c' _ W hr.row hr.lim hr.cap (by omega))
 rw [iv_can] at hS
 clear h k hl
 have HF := Lib.hid ((Fr.refl w).box [.bool s, .slice A xs.length c, .slice B ys.length d] 43)
 rw [show [Value.bool s, Value.slice A xs.length c, Value.slice B ys.length d].toArray = #[Value.bool s, Value.slice A xs.length c, Value.slice B ys.length d] from rfl] at HF
 go_enter Tryz.func66, Tryz.ntmps66
 go_wp2_with fail
 refine (hN.out _ HF.out.bel).mono ?_
 rintro e W1 ⟨A2, c2, B2, d2, rfl, q1, q2, q3⟩
 replace HF := Lib.hid (HF.out.below q3)
 have Q1 := Lib.hid q1
 clear q1 q2 q3
 have hnum := run_num
 go_wp2_with fail
 refine (hS.out W1 A2 c2 Q1.out).mono ?_
 rintro e W2 ⟨rfl, hb⟩
 replace HF := Lib.hid (HF.out.below hb)
 clear hb
 go_wp2
 go_ret
 exact ⟨rfl, HF.out.bel⟩
set_option maxHeartbeats 1000000 in
set_option maxRecDepth 100000 in
theorem ratio_Whole (n : Int) (w : World) (h0 : -9223372036854775808 ≤ n) (h1 : n ≤ 9223372036854775807) :
 Calls Tryz.prog 144 #[.int .i64 n] w fun e w' => ToldQ w (n : Rat) e w' := by
 have hO := Lib.hid (fun (W : World) => whole_Of n W h0 h1)
 have HF := Lib.hid ((Fr.refl w).box [.bool false, .slice none 0 0, .slice none 0 0] 43)
 go_enter Tryz.func144, Tryz.ntmps144
 go_wp2_with fail
 refine (hO.out _).mono ?_
 rintro e W1 ⟨A1, c1, rfl, q1, q2, q3⟩
 replace HF := Lib.hid (HF.out.below q3)
 have Q1 := Lib.hid (In.dg q2 q1)
 clear q1 q2 q3
 have HG := Lib.hid (HF.out.box [.int .u32 1] 133)
 have hf0 := HG.out.frozenN 1 rfl 0
 have hf1 := HG.out.frozenN 1 rfl 1
 have hf2 := HG.out.frozenN 1 rfl 2
 have hd0 := HG.out.cellN 1 rfl 0 rfl
 have hd1 := HG.out.cellN 1 rfl 1 rfl
 have hd2 := HG.out.cellN 1 rfl 2 rfl
 have e1 : dg (n : Rat).den = [1] := dg_one
 have HE := Lib.hid (end_rat (q := (n : Rat)) (A := A1) (c := c1) (B := some ⟨W1.heap.size, 0, none⟩) (d := 1) (HF.out.alloc (.cells #[.int .u32 1] 133)) (by simp) (by simp) (by omega) (Q1.out.below ((Below.refl _ W1).alloc (Nat.le_refl _) _)) (by rw [e1]; exact In.one (HG.out.cellN 0 rfl 0 rfl) (by omega) (by omega)) rfl)
 rw [e1, Rat.num_intCast] at HE
 generalize decide (n < 0) = b at HE ⊢
 clear e1
 go_wp2
 obtain ⟨f1, f2⟩ := HE.out
 exact post_own f2 rfl rfl rfl Tryz.underlying43 rfl (by kernel_rfl) f1
structure InQ (w : World) (A : Option Addr) (c : Nat) (B : Option Addr) (d : Nat) (q : Rat) : Prop where
 num : In w A c (dg q.num.natAbs)
 den : In w B d (dg q.den)
theorem InQ.below {w W : World} {A : Option Addr} {c : Nat} {B : Option Addr} {d : Nat} {q : Rat} (h : InQ w A c B d q) (hb : Below w.heap.size w W) : InQ W A c B d q := ⟨h.num.below hb, h.den.below hb⟩
theorem InQ.put3 {w : World} {A : Option Addr} {c : Nat} {B : Option Addr} {d : Nat} {q : Rat} {g : Nat} {x y z a b : Value} (h : InQ w A c B d q) (ho : Own w g [x, y, z]) (n0 : ∀ u, Value.int .u32 u ∉ [x, y, z]) (n1 : ∀ u, Value.int .u32 u ∉ [a, y, z]) (n2 : ∀ u, Value.int .u32 u ∉ [a, b, z]) (v : Value) :
 InQ (((w.setCell ⟨g, 0, none⟩ a).setCell ⟨g, 1, none⟩ b).setCell ⟨g, 2, none⟩ v) A c B d q := ⟨h.num.put3 ho n0 n1 n2 v, h.den.put3 ho n0 n1 n2 v⟩
theorem InQ.put2 {w : World} {A : Option Addr} {c : Nat} {B : Option Addr} {d : Nat} {q : Rat} {g : Nat} {x y a : Value} (h : InQ w A c B d q) (ho : Own w g [x, y]) (n0 : ∀ u, Value.int .u32 u ∉ [x, y]) (n1 : ∀ u, Value.int .u32 u ∉ [a, y]) (v : Value) :
 InQ ((w.setCell ⟨g, 0, none⟩ a).setCell ⟨g, 1, none⟩ v) A c B d q := ⟨h.num.put2 ho n0 n1 v, h.den.put2 ho n0 n1 v⟩
theorem mulQ_len {p q : Rat} {n : Nat} (h1 : (dg p.num.natAbs).length ≤ n) (h2 : (dg p.den).length ≤ n) (h3 : (dg q.num.natAbs).length ≤ n) (h4 : (dg q.den).length ≤ n) :
 (dg (p.num * q.num).natAbs).length ≤ n + n ∧ (dg (p.den * q.den)).length ≤ n + n ∧ (dg (p.num * q.den).natAbs).length ≤ n + n ∧ (dg (q.num * p.den).natAbs).length ≤ n + n ∧ (dg (p.num * q.den + q.num * p.den).natAbs).length ≤ n + n + 1 := by
 have a1 := Int.lt_of_lt_of_le (dg_lt p.num.natAbs) (Bp_le h1)
 have a2 := Int.lt_of_lt_of_le (dg_lt p.den) (Bp_le h2)
 have a3 := Int.lt_of_lt_of_le (dg_lt q.num.natAbs) (Bp_le h3)
 have a4 := Int.lt_of_lt_of_le (dg_lt q.den) (Bp_le h4)
 have b1 := abs_mul_lt (m := p.num) (n := q.num) a1 a3
 have b2 := abs_mul_lt (m := (p.den : Int)) (n := (q.den : Int)) (i := n) (j := n) (by simpa using a2) (by simpa using a4)
 have b3 := abs_mul_lt (m := p.num) (n := (q.den : Int)) (i := n) (j := n) a1 (by simpa using a4)
 have b4 := abs_mul_lt (m := q.num) (n := (p.den : Int)) (i := n) (j := n) a3 (by simpa using a2)
 refine ⟨dg_length_le b1, dg_length_le ?_, dg_length_le b3, dg_length_le b4, dg_length_le ?_⟩
 · have e : ((p.den : Int) * (q.den : Int)).natAbs = p.den * q.den := by rw [← Int.natCast_mul]; rfl
   rw [e] at b2; exact b2
 · have := Bp_succ (n + n)
   have := Bp_pos (n + n)
   omega
theorem rat_mul (p q : Rat) : p * q = mkRat (p.num * q.num) (p.den * q.den) := by rw [Rat.mul_def, Rat.normalize_eq_mkRat]
theorem rat_add (p q : Rat) : p + q = mkRat (p.num * q.den + q.num * p.den) (p.den * q.den) := by rw [Rat.add_def, Rat.normalize_eq_mkRat]
theorem rv_of (n : Int) (d : Nat) : rv (decide (n < 0)) (dg n.natAbs) (dg d) = mkRat n d := by unfold rv; rw [iv_can, V_dg, Int.toNat_natCast]
set_option maxHeartbeats 1000000 in
set_option maxRecDepth 100000 in
theorem ratio_Mul (s : Bool) (A : Option Addr) (c : Nat) (xs : List Int) (B : Option Addr) (d : Nat) (ys : List Int) (t : Bool) (E : Option Addr) (j : Nat) (us : List Int) (G : Option Addr) (l : Nat) (vs : List Int) (w : World) (h1 : In w A c xs) (m1 : xs.length ≤ 137438953472) (h2 : In w B d ys) (m2 : ys.length ≤ 137438953472) (h3 : In w E j us) (m3 : us.length ≤ 137438953472) (h4 : In w G l vs) (m4 : vs.length ≤ 137438953472) :
 Calls Tryz.prog 143 #[.agg #[.bool s, .slice A xs.length c, .slice B ys.length d], .agg #[.bool t, .slice E us.length j, .slice G vs.length l]] w fun e w' => ToldQ w (rv s xs ys * rv t us vs) e w' := by
 have hN1 := Lib.hid (fun (W : World) (hb : Below w.heap.size w W) => ratio_Norm s A c xs B d ys W (h1.below hb) (by omega) (h2.below hb) (by omega))
 have hN2 := Lib.hid (fun (W : World) (hb : Below w.heap.size w W) => ratio_Norm t E j us G l vs W (h3.below hb) (by omega) (h4.below hb) (by omega))
 have hl1 := rv_len s h1.lim h2.lim
 have hl2 := rv_len t h3.lim h4.lim
 generalize rv s xs ys = p at *
 generalize rv t us vs = q at *
 have hml := mulQ_len (p := p) (q := q) (n := 137438953473) (by omega) (by omega) (by omega) (by omega)
 have hM := Lib.hid (fun (W : World) (A1 : Option Addr) (c1 : Nat) (B1 : Option Addr) (d1 : Nat) (A2 : Option Addr) (c2 : Nat) (B2 : Option Addr) (d2 : Nat) (k1 : InQ W A1 c1 B1 d1 p) (k2 : InQ W A2 c2 B2 d2 q) => whole_Mul (decide (p.num < 0)) A1 c1 _ (decide (q.num < 0)) A2 c2 _ W k1.num (by omega) k2.num (by omega))
 have hD := Lib.hid (fun (W : World) (A1 : Option Addr) (c1 : Nat) (B1 : Option Addr) (d1 : Nat) (A2 : Option Addr) (c2 : Nat) (B2 : Option Addr) (d2 : Nat) (k1 : InQ W A1 c1 B1 d1 p) (k2 : InQ W A2 c2 B2 d2 q) => nat_Mul B1 d1 _ B2 d2 _ W k1.den.row k1.den.lim k1.den.cap (by omega) k2.den.row k2.den.lim k2.den.cap (by omega))
 have hG := Lib.hid (fun (W : World) (A1 : Option Addr) (c1 : Nat) (B1 : Option Addr) (d1 : Nat) (k1 : In W A1 c1 (dg (p.num * q.num).natAbs)) (k2 : In W B1 d1 (dg (p.den * q.den))) => ratio_made (decide (p.num * q.num < 0)) A1 c1 _ B1 d1 _ W k1 (by omega) k2 (by omega) (by rw [V_dg]; have := Nat.mul_pos p.den_pos q.den_pos; omega))
 unfold Told at hD
 rw [rv_of, ← rat_mul] at hG
 simp only [iv_can] at hM
 simp only [V_dg, ← Int.natCast_mul, Int.toNat_natCast] at hD
 generalize p * q = r at hG ⊢
 clear h1 h2 h3 h4 hl1 hl2 hml
 have HF := Lib.hid ((((Fr.refl w).box [.bool s, .slice A xs.length c, .slice B ys.length d] 43).box [.bool t, .slice E us.length j, .slice G vs.length l] 43).box [.bool false, .slice none 0 0, .slice none 0 0] 43)
 have hsz : (w.alloc (.cells #[.bool s, .slice A xs.length c, .slice B ys.length d] 43)).heap.size = w.heap.size + 1 := by simp
 have hsz2 : ((w.alloc (.cells #[.bool s, .slice A xs.length c, .slice B ys.length d] 43)).alloc (.cells #[.bool t, .slice E us.length j, .slice G vs.length l] 43)).heap.size = w.heap.size + 2 := by simp
 rw [show [Value.bool s, Value.slice A xs.length c, Value.slice B ys.length d].toArray = #[Value.bool s, Value.slice A xs.length c, Value.slice B ys.length d] from rfl, hsz, show [Value.bool t, Value.slice E us.length j, Value.slice G vs.length l].toArray = #[Value.bool t, Value.slice E us.length j, Value.slice G vs.length l] from rfl, hsz2] at HF
 clear hsz hsz2
 go_enter Tryz.func143, Tryz.ntmps143
 go_wp2_with fail
 generalize ((w.alloc (Obj.cells #[Value.bool s, .slice A xs.length c, .slice B ys.length d] 43)).alloc (Obj.cells #[Value.bool t, .slice E us.length j, .slice G vs.length l] 43)).alloc (Obj.cells #[Value.bool false, .slice none 0 0, .slice none 0 0] 43) = W at *
 have HF_ := Lib.hid HF.out.drew
 clear HF
 have HF := HF_
 clear HF_
 refine start_ (n := 6) (S := fun w' => w'.cell? ⟨w.heap.size, 0, none⟩ = some (.bool s) ∧ w'.cell? ⟨w.heap.size, 1, none⟩ = some (.slice A xs.length c) ∧ w'.cell? ⟨w.heap.size, 2, none⟩ = some (.slice B ys.length d) ∧ w'.cell? ⟨w.heap.size + 1, 0, none⟩ = some (.bool t) ∧ w'.cell? ⟨w.heap.size + 1, 1, none⟩ = some (.slice E us.length j) ∧ w'.cell? ⟨w.heap.size + 1, 2, none⟩ = some (.slice G vs.length l)) (ds := [4, 5]) #[false, false, false, false, false, false] (by kernel_rfl) rfl rfl ⟨HF.out.cellN 2 rfl 0 rfl, HF.out.cellN 2 rfl 1 rfl, HF.out.cellN 2 rfl 2 rfl, HF.out.cellN 1 rfl 0 rfl, HF.out.cellN 1 rfl 1 rfl, HF.out.cellN 1 rfl 2 rfl⟩ (fun hHeld => ?_)
 generalize World.drew _ = W at *
 refine tk_ (v := ?_) (a' := ?_) 0 (some 5) rfl rfl ?_ hHeld ?_ ?_
 rotate_left
 · rintro w' ⟨s0, s1, s2, s3, s4, s5⟩; go_simp; with_reducible rfl
 rotate_left
 · simp only [Act.put, sa_, sb_, sc_]
   rfl
 refine tk_ (v := ?_) (a' := ?_) 2 (some 7) rfl rfl ?_ hHeld ?_ ?_
 rotate_left
 · rintro w' ⟨s0, s1, s2, s3, s4, s5⟩; go_simp; with_reducible rfl
 rotate_left
 · simp only [Act.put, sa_, sb_, sc_]
   rfl
 refine on_ 1 (N := (some 6)) rfl rfl (fun K hK => ?_)
 refine goes_ Tryz.func67 (by kernel_rfl) rfl #[.agg #[.bool s, .slice A xs.length c, .slice B ys.length d]] (by rfl) rfl rfl (by (try simp only [List.map_toArray, List.map_cons, List.map_nil]); first | done | rfl) ?_
 refine (hN1.out W HF.out.bel).mono ?_
 rintro e W1 ⟨A1, c1, B1, d1, rfl, q1, q2, q3⟩
 refine ⟨_, rfl, ?_⟩
 replace HF := Lib.hid (HF.out.below q3)
 have Q1 := Lib.hid (InQ.mk q1 q2)
 clear q1 q2 q3
 refine hK.out _ _ ⟨HF.out.cellN 2 rfl 0 rfl, HF.out.cellN 2 rfl 1 rfl, HF.out.cellN 2 rfl 2 rfl, HF.out.cellN 1 rfl 0 rfl, HF.out.cellN 1 rfl 1 rfl, HF.out.cellN 1 rfl 2 rfl⟩ (fun hHeld => ?_)
 clear hK K
 refine norm_ (a' := ?_) ?_ ?_
 rotate_left
 · show Act.put _ (some 6) _ = _
   simp only [Act.put, sa_, sb_, sc_]
   rfl
 refine on_ 3 (N := (some 8)) rfl rfl (fun K hK => ?_)
 refine goes_ Tryz.func67 (by kernel_rfl) rfl #[.agg #[.bool t, .slice E us.length j, .slice G vs.length l]] (by rfl) rfl rfl (by (try simp only [List.map_toArray, List.map_cons, List.map_nil]); first | done | rfl) ?_
 refine (hN2.out W1 HF.out.bel).mono ?_
 rintro e W2 ⟨A2, c2, B2, d2, rfl, q1, q2, q3⟩
 refine ⟨_, rfl, ?_⟩
 replace HF := Lib.hid (HF.out.below q3)
 replace Q1 := Lib.hid (Q1.out.below q3)
 have Q2 := Lib.hid (InQ.mk q1 q2)
 clear q1 q2 q3
 refine hK.out _ _ ⟨HF.out.cellN 2 rfl 0 rfl, HF.out.cellN 2 rfl 1 rfl, HF.out.cellN 2 rfl 2 rfl, HF.out.cellN 1 rfl 0 rfl, HF.out.cellN 1 rfl 1 rfl, HF.out.cellN 1 rfl 2 rfl⟩ (fun hHeld => ?_)
 clear hK K
 refine norm_ (a' := ?_) ?_ ?_
 rotate_left
 · show Act.put _ (some 8) _ = _
   simp only [Act.put, sa_, sb_, sc_]
   rfl
 refine ls_ 4 (N := none) rfl rfl (fun K hK => ?_)
 have hf0 := HF.out.frozenN 2 rfl 0
 have hf1 := HF.out.frozenN 2 rfl 1
 have hf2 := HF.out.frozenN 2 rfl 2
 have hd0 := HF.out.cellN 2 rfl 0 rfl
 have hd1 := HF.out.cellN 2 rfl 1 rfl
 have hd2 := HF.out.cellN 2 rfl 2 rfl
 have ef0 := HF.out.frozenN 1 rfl 0
 have ef1 := HF.out.frozenN 1 rfl 1
 have ef2 := HF.out.frozenN 1 rfl 2
 have ed0 := HF.out.cellN 1 rfl 0 rfl
 have ed1 := HF.out.cellN 1 rfl 1 rfl
 have ed2 := HF.out.cellN 1 rfl 2 rfl
 refine skip_ (w1 := ?_) (by rfl) rfl ?_ ?_
 rotate_left
 · go_simp
   rfl
 replace Q1 := Lib.hid (Q1.out.put3 (HF.out.ownN 2 rfl) (by simp) (a := .bool (decide (p.num < 0))) (by simp) (b := .slice A1 (dg p.num.natAbs).length c1) (by simp) (.slice B1 (dg p.den).length d1))
 replace Q2 := Lib.hid (Q2.out.put3 (HF.out.ownN 2 rfl) (by simp) (a := .bool (decide (p.num < 0))) (by simp) (b := .slice A1 (dg p.num.natAbs).length c1) (by simp) (.slice B1 (dg p.den).length d1))
 replace HF := Lib.hid (HF.out.put3 2 rfl (by omega) (by simp) (.bool (decide (p.num < 0))) (.slice A1 (dg p.num.natAbs).length c1) (.slice B1 (dg p.den).length d1))
 refine hK.out _ _ ?_
 clear hK K
 refine ls_ 5 (N := none) rfl rfl (fun K hK => ?_)
 refine skip_ (w1 := ?_) (by rfl) rfl ?_ ?_
 rotate_left
 · go_simp
   rfl
 clear hf0 hf1 hf2 hd0 hd1 hd2 ef0 ef1 ef2 ed0 ed1 ed2
 replace Q1 := Lib.hid (Q1.out.put3 (HF.out.ownN 1 rfl) (by simp) (a := .bool (decide (q.num < 0))) (by simp) (b := .slice A2 (dg q.num.natAbs).length c2) (by simp) (.slice B2 (dg q.den).length d2))
 replace Q2 := Lib.hid (Q2.out.put3 (HF.out.ownN 1 rfl) (by simp) (a := .bool (decide (q.num < 0))) (by simp) (b := .slice A2 (dg q.num.natAbs).length c2) (by simp) (.slice B2 (dg q.den).length d2))
 replace HF := Lib.hid (HF.out.put3 1 rfl (by omega) (by simp) (.bool (decide (q.num < 0))) (.slice A2 (dg q.num.natAbs).length c2) (.slice B2 (dg q.den).length d2))
 refine hK.out _ _ ?_
 clear hK K
 refine done_ (by kernel_rfl) ?_
 go_wp2_with fail
 generalize World.setCell _ _ _ = W at HF Q1 Q2 ⊢
 replace Q1 := Lib.hid (Q1.out.below (Below.drew (Below.refl _ _)))
 replace Q2 := Lib.hid (Q2.out.below (Below.drew (Below.refl _ _)))
 have HF_ := Lib.hid HF.out.drew
 clear HF
 have HF := HF_
 clear HF_
 refine start_ (n := 12) (S := fun w' => w'.cell? ⟨w.heap.size, 0, none⟩ = some (.bool (decide (p.num < 0))) ∧ w'.cell? ⟨w.heap.size, 1, none⟩ = some (.slice A1 (dg p.num.natAbs).length c1) ∧ w'.cell? ⟨w.heap.size, 2, none⟩ = some (.slice B1 (dg p.den).length d1) ∧ w'.cell? ⟨w.heap.size + 1, 0, none⟩ = some (.bool (decide (q.num < 0))) ∧ w'.cell? ⟨w.heap.size + 1, 1, none⟩ = some (.slice A2 (dg q.num.natAbs).length c2) ∧ w'.cell? ⟨w.heap.size + 1, 2, none⟩ = some (.slice B2 (dg q.den).length d2)) (ds := []) #[false, false, false, false, false, false, false, false, false, false, false, false] (by kernel_rfl) rfl rfl ⟨HF.out.cellN 2 rfl 0 rfl, HF.out.cellN 2 rfl 1 rfl, HF.out.cellN 2 rfl 2 rfl, HF.out.cellN 1 rfl 0 rfl, HF.out.cellN 1 rfl 1 rfl, HF.out.cellN 1 rfl 2 rfl⟩ (fun hHeld => ?_)
 generalize World.drew _ = W at *
 refine pu_ (v := ?_) (a' := ?_) 0 (some 9) rfl rfl ?_ ?_ ?_
 rotate_left; · intro w'; go_simp; with_reducible rfl
 rotate_left
 · simp only [Act.put, sa_, sb_, sc_]
   rfl
 refine pu_ (v := ?_) (a' := ?_) 2 (some 11) rfl rfl ?_ ?_ ?_
 rotate_left; · intro w'; go_simp; with_reducible rfl
 rotate_left
 · simp only [Act.put, sa_, sb_, sc_]
   rfl
 refine pu_ (v := ?_) (a' := ?_) 5 (some 14) rfl rfl ?_ ?_ ?_
 rotate_left; · intro w'; go_simp; with_reducible rfl
 rotate_left
 · simp only [Act.put, sa_, sb_, sc_]
   rfl
 refine pu_ (v := ?_) (a' := ?_) 7 (some 16) rfl rfl ?_ ?_ ?_
 rotate_left; · intro w'; go_simp; with_reducible rfl
 rotate_left
 · simp only [Act.put, sa_, sb_, sc_]
   rfl
 refine tk_ (v := ?_) (a' := ?_) 1 (some 10) rfl rfl ?_ hHeld ?_ ?_
 rotate_left
 · rintro w' ⟨s0, s1, s2, s3, s4, s5⟩; go_simp; with_reducible rfl
 rotate_left
 · simp only [Act.put, sa_, sb_, sc_]
   rfl
 refine tk_ (v := ?_) (a' := ?_) 3 (some 12) rfl rfl ?_ hHeld ?_ ?_
 rotate_left
 · rintro w' ⟨s0, s1, s2, s3, s4, s5⟩; go_simp; with_reducible rfl
 rotate_left
 · simp only [Act.put, sa_, sb_, sc_]
   rfl
 refine tk_ (v := ?_) (a' := ?_) 6 (some 15) rfl rfl ?_ hHeld ?_ ?_
 rotate_left
 · rintro w' ⟨s0, s1, s2, s3, s4, s5⟩; go_simp; with_reducible rfl
 rotate_left
 · simp only [Act.put, sa_, sb_, sc_]
   rfl
 refine tk_ (v := ?_) (a' := ?_) 8 (some 17) rfl rfl ?_ hHeld ?_ ?_
 rotate_left
 · rintro w' ⟨s0, s1, s2, s3, s4, s5⟩; go_simp; with_reducible rfl
 rotate_left
 · simp only [Act.put, sa_, sb_, sc_]
   rfl
 refine on_ 4 (N := (some 13)) rfl rfl (fun K hK => ?_)
 refine goes_ Tryz.func206 (by kernel_rfl) rfl #[.agg #[.bool (decide (p.num < 0)), .slice A1 (dg p.num.natAbs).length c1], .agg #[.bool (decide (q.num < 0)), .slice A2 (dg q.num.natAbs).length c2]] (by rfl) rfl rfl (by (try simp only [List.map_toArray, List.map_cons, List.map_nil]); first | done | rfl) ?_
 refine (hM.out W A1 c1 B1 d1 A2 c2 B2 d2 Q1.out Q2.out).mono ?_
 rintro e W1 ⟨A3, c3, rfl, q1, q2, q3⟩
 refine ⟨_, rfl, ?_⟩
 replace HF := Lib.hid (HF.out.below q3)
 replace Q1 := Lib.hid (Q1.out.below q3)
 replace Q2 := Lib.hid (Q2.out.below q3)
 have Q3 := Lib.hid (In.dg q2 q1)
 clear q1 q2 q3
 refine hK.out _ _ ⟨HF.out.cellN 2 rfl 0 rfl, HF.out.cellN 2 rfl 1 rfl, HF.out.cellN 2 rfl 2 rfl, HF.out.cellN 1 rfl 0 rfl, HF.out.cellN 1 rfl 1 rfl, HF.out.cellN 1 rfl 2 rfl⟩ (fun hHeld => ?_)
 clear hK K
 refine norm_ (a' := ?_) ?_ ?_
 rotate_left
 · show Act.put _ (some 13) _ = _
   simp only [Act.put, sa_, sb_, sc_]
   rfl
 refine on_ 9 (N := (some 18)) rfl rfl (fun K hK => ?_)
 refine goes_ Tryz.func151 (by kernel_rfl) rfl #[.slice B1 (dg p.den).length d1, .slice B2 (dg q.den).length d2] (by rfl) rfl rfl (by (try simp only [List.map_toArray, List.map_cons, List.map_nil]); first | done | rfl) ?_
 refine (hD.out W1 A1 c1 B1 d1 A2 c2 B2 d2 Q1.out Q2.out).mono ?_
 rintro e W2 ⟨A4, c4, rfl, q1, q2, q3⟩
 refine ⟨_, rfl, ?_⟩
 replace HF := Lib.hid (HF.out.below q3)
 replace Q3 := Lib.hid (Q3.out.below q3)
 have Q4 := Lib.hid (In.dg q2 q1)
 clear q1 q2 q3 Q1 Q2
 refine hK.out _ _ ⟨HF.out.cellN 2 rfl 0 rfl, HF.out.cellN 2 rfl 1 rfl, HF.out.cellN 2 rfl 2 rfl, HF.out.cellN 1 rfl 0 rfl, HF.out.cellN 1 rfl 1 rfl, HF.out.cellN 1 rfl 2 rfl⟩ (fun hHeld => ?_)
 clear hK K
 refine norm_ (a' := ?_) ?_ ?_
 rotate_left
 · show Act.put _ (some 18) _ = _
   simp only [Act.put, sa_, sb_, sc_]
   rfl
 refine on_ 10 (N := (some 19)) rfl rfl (fun K hK => ?_)
 refine goes_ Tryz.func138 (by kernel_rfl) rfl #[.agg #[.bool (decide (p.num * q.num < 0)), .slice A3 (dg (p.num * q.num).natAbs).length c3], .slice A4 (dg (p.den * q.den)).length c4] (by rfl) rfl rfl (by (try simp only [List.map_toArray, List.map_cons, List.map_nil]); first | done | rfl) ?_
 refine (hG.out W2 A3 c3 A4 c4 Q3.out Q4.out).mono ?_
 rintro e W3 ⟨A5, c5, A6, c6, rfl, q1, q2, q3⟩
 refine ⟨_, rfl, ?_⟩
 replace HF := Lib.hid (HF.out.below q3)
 replace Q3 := Lib.hid q1
 replace Q4 := Lib.hid q2
 clear q1 q2 q3
 refine hK.out _ _ ⟨HF.out.cellN 2 rfl 0 rfl, HF.out.cellN 2 rfl 1 rfl, HF.out.cellN 2 rfl 2 rfl, HF.out.cellN 1 rfl 0 rfl, HF.out.cellN 1 rfl 1 rfl, HF.out.cellN 1 rfl 2 rfl⟩ (fun hHeld => ?_)
 clear hK K
 refine norm_ (a' := ?_) ?_ ?_
 rotate_left
 · show Act.put _ (some 19) _ = _
   simp only [Act.put, sa_, sb_, sc_]
   rfl
 refine on_ 11 (N := none) rfl rfl (fun K hK => ?_)
 have hf0 := HF.out.frozenN 0 rfl 0
 have hf1 := HF.out.frozenN 0 rfl 1
 have hf2 := HF.out.frozenN 0 rfl 2
 have hd0 := HF.out.cellN 0 rfl 0 rfl
 have hd1 := HF.out.cellN 0 rfl 1 rfl
 have hd2 := HF.out.cellN 0 rfl 2 rfl
 refine skip_ (w1 := ?_) (by rfl) rfl ?_ ?_
 rotate_left
 · go_simp
   rfl
 have HE := Lib.hid (end_rat HF.out (by simp) (by simp) (by omega) Q3.out Q4.out rfl)
 replace HF := Lib.hid (HF.out.put3 0 rfl (by omega) (by simp) (.bool (decide (r.num < 0))) (.slice A5 (dg r.num.natAbs).length c5) (.slice A6 (dg r.den).length c6))
 refine hK.out _ _ ⟨HF.out.cellN 2 rfl 0 rfl, HF.out.cellN 2 rfl 1 rfl, HF.out.cellN 2 rfl 2 rfl, HF.out.cellN 1 rfl 0 rfl, HF.out.cellN 1 rfl 1 rfl, HF.out.cellN 1 rfl 2 rfl⟩ (fun hHeld => ?_)
 clear hK K
 refine done_ (by kernel_rfl) ?_
 generalize decide (r.num < 0) = b at HE ⊢
 go_wp2
 obtain ⟨f1, f2⟩ := HE.out
 exact post_own f2 rfl rfl rfl Tryz.underlying43 rfl (by kernel_rfl) f1
set_option maxHeartbeats 1000000 in
set_option maxRecDepth 100000 in
theorem ratio_Add (s : Bool) (A : Option Addr) (c : Nat) (xs : List Int) (B : Option Addr) (d : Nat) (ys : List Int) (t : Bool) (E : Option Addr) (j : Nat) (us : List Int) (G : Option Addr) (l : Nat) (vs : List Int) (w : World) (h1 : In w A c xs) (m1 : xs.length ≤ 137438953472) (h2 : In w B d ys) (m2 : ys.length ≤ 137438953472) (h3 : In w E j us) (m3 : us.length ≤ 137438953472) (h4 : In w G l vs) (m4 : vs.length ≤ 137438953472) :
 Calls Tryz.prog 142 #[.agg #[.bool s, .slice A xs.length c, .slice B ys.length d], .agg #[.bool t, .slice E us.length j, .slice G vs.length l]] w fun e w' => ToldQ w (rv s xs ys + rv t us vs) e w' := by
 have hN1 := Lib.hid (fun (W : World) (hb : Below w.heap.size w W) => ratio_Norm s A c xs B d ys W (h1.below hb) (by omega) (h2.below hb) (by omega))
 have hN2 := Lib.hid (fun (W : World) (hb : Below w.heap.size w W) => ratio_Norm t E j us G l vs W (h3.below hb) (by omega) (h4.below hb) (by omega))
 have hl1 := rv_len s h1.lim h2.lim
 have hl2 := rv_len t h3.lim h4.lim
 generalize rv s xs ys = p at *
 generalize rv t us vs = q at *
 have hml := mulQ_len (p := p) (q := q) (n := 137438953473) (by omega) (by omega) (by omega) (by omega)
 have hM1 := Lib.hid (fun (W : World) (A1 : Option Addr) (c1 : Nat) (B1 : Option Addr) (d1 : Nat) (A2 : Option Addr) (c2 : Nat) (B2 : Option Addr) (d2 : Nat) (k1 : InQ W A1 c1 B1 d1 p) (k2 : InQ W A2 c2 B2 d2 q) => whole_Mul (decide (p.num < 0)) A1 c1 _ false B2 d2 _ W k1.num (by omega) k2.den (by omega))
 have hM2 := Lib.hid (fun (W : World) (A1 : Option Addr) (c1 : Nat) (B1 : Option Addr) (d1 : Nat) (A2 : Option Addr) (c2 : Nat) (B2 : Option Addr) (d2 : Nat) (k1 : InQ W A1 c1 B1 d1 p) (k2 : InQ W A2 c2 B2 d2 q) => whole_Mul (decide (q.num < 0)) A2 c2 _ false B1 d1 _ W k2.num (by omega) k1.den (by omega))
 have hA := Lib.hid (fun (W : World) (A1 : Option Addr) (c1 : Nat) (A2 : Option Addr) (c2 : Nat) (k1 : In W A1 c1 (dg (p.num * q.den).natAbs)) (k2 : In W A2 c2 (dg (q.num * p.den).natAbs)) => whole_Add (decide (p.num * q.den < 0)) A1 c1 _ (decide (q.num * p.den < 0)) A2 c2 _ W k1 (by omega) k2 (by omega))
 have hD := Lib.hid (fun (W : World) (A1 : Option Addr) (c1 : Nat) (B1 : Option Addr) (d1 : Nat) (A2 : Option Addr) (c2 : Nat) (B2 : Option Addr) (d2 : Nat) (k1 : InQ W A1 c1 B1 d1 p) (k2 : InQ W A2 c2 B2 d2 q) => nat_Mul B1 d1 _ B2 d2 _ W k1.den.row k1.den.lim k1.den.cap (by omega) k2.den.row k2.den.lim k2.den.cap (by omega))
 have hG := Lib.hid (fun (W : World) (A1 : Option Addr) (c1 : Nat) (B1 : Option Addr) (d1 : Nat) (k1 : In W A1 c1 (dg (p.num * q.den + q.num * p.den).natAbs)) (k2 : In W B1 d1 (dg (p.den * q.den))) => ratio_made (decide (p.num * q.den + q.num * p.den < 0)) A1 c1 _ B1 d1 _ W k1 (by omega) k2 (by omega) (by rw [V_dg]; have := Nat.mul_pos p.den_pos q.den_pos; omega))
 unfold Told at hD
 rw [rv_of, ← rat_add] at hG
 simp only [iv_can] at hM1 hM2 hA
 simp only [V_dg, ← Int.natCast_mul, Int.toNat_natCast] at hD
 simp only [V_dg, iv, Bool.false_eq_true, if_false] at hM1 hM2
 generalize p + q = r at hG ⊢
 clear h1 h2 h3 h4 hl1 hl2 hml
 have HF := Lib.hid ((((Fr.refl w).box [.bool s, .slice A xs.length c, .slice B ys.length d] 43).box [.bool t, .slice E us.length j, .slice G vs.length l] 43).box [.bool false, .slice none 0 0, .slice none 0 0] 43)
 have hsz : (w.alloc (.cells #[.bool s, .slice A xs.length c, .slice B ys.length d] 43)).heap.size = w.heap.size + 1 := by simp
 have hsz2 : ((w.alloc (.cells #[.bool s, .slice A xs.length c, .slice B ys.length d] 43)).alloc (.cells #[.bool t, .slice E us.length j, .slice G vs.length l] 43)).heap.size = w.heap.size + 2 := by simp
 rw [show [Value.bool s, Value.slice A xs.length c, Value.slice B ys.length d].toArray = #[Value.bool s, Value.slice A xs.length c, Value.slice B ys.length d] from rfl, hsz, show [Value.bool t, Value.slice E us.length j, Value.slice G vs.length l].toArray = #[Value.bool t, Value.slice E us.length j, Value.slice G vs.length l] from rfl, hsz2] at HF
 clear hsz hsz2
 go_enter Tryz.func142, Tryz.ntmps142
 go_wp2_with fail
 generalize ((w.alloc (Obj.cells #[Value.bool s, .slice A xs.length c, .slice B ys.length d] 43)).alloc (Obj.cells #[Value.bool t, .slice E us.length j, .slice G vs.length l] 43)).alloc (Obj.cells #[Value.bool false, .slice none 0 0, .slice none 0 0] 43) = W at *
 have HF_ := Lib.hid HF.out.drew
 clear HF
 have HF := HF_
 clear HF_
 refine start_ (n := 6) (S := fun w' => w'.cell? ⟨w.heap.size, 0, none⟩ = some (.bool s) ∧ w'.cell? ⟨w.heap.size, 1, none⟩ = some (.slice A xs.length c) ∧ w'.cell? ⟨w.heap.size, 2, none⟩ = some (.slice B ys.length d) ∧ w'.cell? ⟨w.heap.size + 1, 0, none⟩ = some (.bool t) ∧ w'.cell? ⟨w.heap.size + 1, 1, none⟩ = some (.slice E us.length j) ∧ w'.cell? ⟨w.heap.size + 1, 2, none⟩ = some (.slice G vs.length l)) (ds := [4, 5]) #[false, false, false, false, false, false] (by kernel_rfl) rfl rfl ⟨HF.out.cellN 2 rfl 0 rfl, HF.out.cellN 2 rfl 1 rfl, HF.out.cellN 2 rfl 2 rfl, HF.out.cellN 1 rfl 0 rfl, HF.out.cellN 1 rfl 1 rfl, HF.out.cellN 1 rfl 2 rfl⟩ (fun hHeld => ?_)
 generalize World.drew _ = W at *
 refine tk_ (v := ?_) (a' := ?_) 0 (some 6) rfl rfl ?_ hHeld ?_ ?_
 rotate_left
 · rintro w' ⟨s0, s1, s2, s3, s4, s5⟩; go_simp; with_reducible rfl
 rotate_left
 · simp only [Act.put, sa_, sb_, sc_]
   rfl
 refine tk_ (v := ?_) (a' := ?_) 2 (some 8) rfl rfl ?_ hHeld ?_ ?_
 rotate_left
 · rintro w' ⟨s0, s1, s2, s3, s4, s5⟩; go_simp; with_reducible rfl
 rotate_left
 · simp only [Act.put, sa_, sb_, sc_]
   rfl
 refine on_ 1 (N := (some 7)) rfl rfl (fun K hK => ?_)
 refine goes_ Tryz.func67 (by kernel_rfl) rfl #[.agg #[.bool s, .slice A xs.length c, .slice B ys.length d]] (by rfl) rfl rfl (by (try simp only [List.map_toArray, List.map_cons, List.map_nil]); first | done | rfl) ?_
 refine (hN1.out W HF.out.bel).mono ?_
 rintro e W1 ⟨A1, c1, B1, d1, rfl, q1, q2, q3⟩
 refine ⟨_, rfl, ?_⟩
 replace HF := Lib.hid (HF.out.below q3)
 have Q1 := Lib.hid (InQ.mk q1 q2)
 clear q1 q2 q3
 refine hK.out _ _ ⟨HF.out.cellN 2 rfl 0 rfl, HF.out.cellN 2 rfl 1 rfl, HF.out.cellN 2 rfl 2 rfl, HF.out.cellN 1 rfl 0 rfl, HF.out.cellN 1 rfl 1 rfl, HF.out.cellN 1 rfl 2 rfl⟩ (fun hHeld => ?_)
 clear hK K
 refine norm_ (a' := ?_) ?_ ?_
 rotate_left
 · show Act.put _ (some 7) _ = _
   simp only [Act.put, sa_, sb_, sc_]
   rfl
 refine on_ 3 (N := (some 9)) rfl rfl (fun K hK => ?_)
 refine goes_ Tryz.func67 (by kernel_rfl) rfl #[.agg #[.bool t, .slice E us.length j, .slice G vs.length l]] (by rfl) rfl rfl (by (try simp only [List.map_toArray, List.map_cons, List.map_nil]); first | done | rfl) ?_
 refine (hN2.out W1 HF.out.bel).mono ?_
 rintro e W2 ⟨A2, c2, B2, d2, rfl, q1, q2, q3⟩
 refine ⟨_, rfl, ?_⟩
 replace HF := Lib.hid (HF.out.below q3)
 replace Q1 := Lib.hid (Q1.out.below q3)
 have Q2 := Lib.hid (InQ.mk q1 q2)
 clear q1 q2 q3
 refine hK.out _ _ ⟨HF.out.cellN 2 rfl 0 rfl, HF.out.cellN 2 rfl 1 rfl, HF.out.cellN 2 rfl 2 rfl, HF.out.cellN 1 rfl 0 rfl, HF.out.cellN 1 rfl 1 rfl, HF.out.cellN 1 rfl 2 rfl⟩ (fun hHeld => ?_)
 clear hK K
 refine norm_ (a' := ?_) ?_ ?_
 rotate_left
 · show Act.put _ (some 9) _ = _
   simp only [Act.put, sa_, sb_, sc_]
   rfl
 refine ls_ 4 (N := none) rfl rfl (fun K hK => ?_)
 have hf0 := HF.out.frozenN 2 rfl 0
 have hf1 := HF.out.frozenN 2 rfl 1
 have hf2 := HF.out.frozenN 2 rfl 2
 have hd0 := HF.out.cellN 2 rfl 0 rfl
 have hd1 := HF.out.cellN 2 rfl 1 rfl
 have hd2 := HF.out.cellN 2 rfl 2 rfl
 have ef0 := HF.out.frozenN 1 rfl 0
 have ef1 := HF.out.frozenN 1 rfl 1
 have ef2 := HF.out.frozenN 1 rfl 2
 have ed0 := HF.out.cellN 1 rfl 0 rfl
 have ed1 := HF.out.cellN 1 rfl 1 rfl
 have ed2 := HF.out.cellN 1 rfl 2 rfl
 refine skip_ (w1 := ?_) (by rfl) rfl ?_ ?_
 rotate_left
 · go_simp
   rfl
 replace Q1 := Lib.hid (Q1.out.put3 (HF.out.ownN 2 rfl) (by simp) (a := .bool (decide (p.num < 0))) (by simp) (b := .slice A1 (dg p.num.natAbs).length c1) (by simp) (.slice B1 (dg p.den).length d1))
 replace Q2 := Lib.hid (Q2.out.put3 (HF.out.ownN 2 rfl) (by simp) (a := .bool (decide (p.num < 0))) (by simp) (b := .slice A1 (dg p.num.natAbs).length c1) (by simp) (.slice B1 (dg p.den).length d1))
 replace HF := Lib.hid (HF.out.put3 2 rfl (by omega) (by simp) (.bool (decide (p.num < 0))) (.slice A1 (dg p.num.natAbs).length c1) (.slice B1 (dg p.den).length d1))
 refine hK.out _ _ ?_
 clear hK K
 refine ls_ 5 (N := none) rfl rfl (fun K hK => ?_)
 refine skip_ (w1 := ?_) (by rfl) rfl ?_ ?_
 rotate_left
 · go_simp
   rfl
 clear hf0 hf1 hf2 hd0 hd1 hd2 ef0 ef1 ef2 ed0 ed1 ed2
 replace Q1 := Lib.hid (Q1.out.put3 (HF.out.ownN 1 rfl) (by simp) (a := .bool (decide (q.num < 0))) (by simp) (b := .slice A2 (dg q.num.natAbs).length c2) (by simp) (.slice B2 (dg q.den).length d2))
 replace Q2 := Lib.hid (Q2.out.put3 (HF.out.ownN 1 rfl) (by simp) (a := .bool (decide (q.num < 0))) (by simp) (b := .slice A2 (dg q.num.natAbs).length c2) (by simp) (.slice B2 (dg q.den).length d2))
 replace HF := Lib.hid (HF.out.put3 1 rfl (by omega) (by simp) (.bool (decide (q.num < 0))) (.slice A2 (dg q.num.natAbs).length c2) (.slice B2 (dg q.den).length d2))
 refine hK.out _ _ ?_
 clear hK K
 refine done_ (by kernel_rfl) ?_
 go_wp2_with fail
 generalize World.setCell _ _ _ = W at HF Q1 Q2 ⊢
 generalize World.setCell _ _ _ = W at HF Q1 Q2 ⊢
 replace Q1 := Lib.hid (Q1.out.below (Below.drew (Below.refl _ _)))
 replace Q2 := Lib.hid (Q2.out.below (Below.drew (Below.refl _ _)))
 have HF_ := Lib.hid HF.out.drew
 clear HF
 have HF := HF_
 clear HF_
 refine start_ (n := 15) (S := fun w' => w'.cell? ⟨w.heap.size, 0, none⟩ = some (.bool (decide (p.num < 0))) ∧ w'.cell? ⟨w.heap.size, 1, none⟩ = some (.slice A1 (dg p.num.natAbs).length c1) ∧ w'.cell? ⟨w.heap.size, 2, none⟩ = some (.slice B1 (dg p.den).length d1) ∧ w'.cell? ⟨w.heap.size + 1, 0, none⟩ = some (.bool (decide (q.num < 0))) ∧ w'.cell? ⟨w.heap.size + 1, 1, none⟩ = some (.slice A2 (dg q.num.natAbs).length c2) ∧ w'.cell? ⟨w.heap.size + 1, 2, none⟩ = some (.slice B2 (dg q.den).length d2)) (ds := []) #[false, false, false, false, false, false, false, false, false, false, false, false, false, false, false] (by kernel_rfl) rfl rfl ⟨HF.out.cellN 2 rfl 0 rfl, HF.out.cellN 2 rfl 1 rfl, HF.out.cellN 2 rfl 2 rfl, HF.out.cellN 1 rfl 0 rfl, HF.out.cellN 1 rfl 1 rfl, HF.out.cellN 1 rfl 2 rfl⟩ (fun hHeld => ?_)
 generalize World.drew _ = W at *
 refine pure_ (i := 0) (N := (some 10)) (v := ?_) (a' := ?_) #[true, false, false, false, false, false, false, false, false, false, false, false, false, false, false] rfl rfl (by kernel_rfl) (fun _ _ _ h => h) (Or.inl ⟨by rfl, ?_⟩) ?_ ?_
 rotate_left; · intro w'; go_simp; with_reducible rfl
 rotate_left
 · simp only [Act.put, sa_, sb_, sc_]
   rfl
 refine pure_ (i := 2) (N := (some 12)) (v := ?_) (a' := ?_) #[true, false, true, false, false, false, false, false, false, false, false, false, false, false, false] rfl rfl (by kernel_rfl) (fun _ _ _ h => h) (Or.inl ⟨by rfl, ?_⟩) ?_ ?_
 rotate_left; · intro w'; go_simp; with_reducible rfl
 rotate_left
 · simp only [Act.put, sa_, sb_, sc_]
   rfl
 refine pure_ (i := 6) (N := (some 16)) (v := ?_) (a' := ?_) #[true, false, true, false, false, false, true, false, false, false, false, false, false, false, false] rfl rfl (by kernel_rfl) (fun _ _ _ h => h) (Or.inl ⟨by rfl, ?_⟩) ?_ ?_
 rotate_left; · intro w'; go_simp; with_reducible rfl
 rotate_left
 · simp only [Act.put, sa_, sb_, sc_]
   rfl
 refine pure_ (i := 8) (N := (some 18)) (v := ?_) (a' := ?_) #[true, false, true, false, false, false, true, false, true, false, false, false, false, false, false] rfl rfl (by kernel_rfl) (fun _ _ _ h => h) (Or.inl ⟨by rfl, ?_⟩) ?_ ?_
 rotate_left; · intro w'; go_simp; with_reducible rfl
 rotate_left
 · simp only [Act.put, sa_, sb_, sc_]
   rfl
 refine take_ (i := 1) (N := (some 11)) (v := ?_) (a' := ?_) #[true, true, true, false, false, false, true, false, true, false, false, false, false, false, false] rfl rfl (by kernel_rfl) (fun _ _ _ h => h) (Or.inl ⟨by rfl, ?_⟩) hHeld ?_ ?_
 rotate_left
 · rintro w' ⟨s0, s1, s2, s3, s4, s5⟩; go_simp; with_reducible rfl
 rotate_left
 · simp only [Act.put, sa_, sb_, sc_]
   rfl
 refine take_ (i := 3) (N := (some 13)) (v := ?_) (a' := ?_) #[true, true, true, true, false, false, true, false, true, false, false, false, false, false, false] rfl rfl (by kernel_rfl) (fun _ _ _ h => h) (Or.inl ⟨by rfl, ?_⟩) hHeld ?_ ?_
 rotate_left
 · rintro w' ⟨s0, s1, s2, s3, s4, s5⟩; go_simp; with_reducible rfl
 rotate_left
 · simp only [Act.put, sa_, sb_, sc_]
   rfl
 refine pure_ (i := 4) (N := (some 14)) (v := ?_) (a' := ?_) #[true, true, true, true, true, false, true, false, true, false, false, false, false, false, false] rfl rfl (by kernel_rfl) (fun _ _ _ h => h) (Or.inl ⟨by rfl, ?_⟩) ?_ ?_
 rotate_left; · intro w'; go_simp; with_reducible rfl
 rotate_left
 · simp only [Act.put, sa_, sb_, sc_]
   rfl
 refine take_ (i := 7) (N := (some 17)) (v := ?_) (a' := ?_) #[true, true, true, true, true, false, true, true, true, false, false, false, false, false, false] rfl rfl (by kernel_rfl) (fun _ _ _ h => h) (Or.inl ⟨by rfl, ?_⟩) hHeld ?_ ?_
 rotate_left
 · rintro w' ⟨s0, s1, s2, s3, s4, s5⟩; go_simp; with_reducible rfl
 rotate_left
 · simp only [Act.put, sa_, sb_, sc_]
   rfl
 refine take_ (i := 9) (N := (some 19)) (v := ?_) (a' := ?_) #[true, true, true, true, true, false, true, true, true, true, false, false, false, false, false] rfl rfl (by kernel_rfl) (fun _ _ _ h => h) (Or.inl ⟨by rfl, ?_⟩) hHeld ?_ ?_
 rotate_left
 · rintro w' ⟨s0, s1, s2, s3, s4, s5⟩; go_simp; with_reducible rfl
 rotate_left
 · simp only [Act.put, sa_, sb_, sc_]
   rfl
 refine pure_ (i := 10) (N := (some 20)) (v := ?_) (a' := ?_) #[true, true, true, true, true, false, true, true, true, true, true, false, false, false, false] rfl rfl (by kernel_rfl) (fun _ _ _ h => h) (Or.inl ⟨by rfl, ?_⟩) ?_ ?_
 rotate_left; · intro w'; go_simp; with_reducible rfl
 rotate_left
 · simp only [Act.put, sa_, sb_, sc_]
   rfl
 refine join_ (σ := Nat × (Option Addr × Nat) × (Option Addr × Nat) × Option Addr × Nat) 0 #[true, true, true, true, true, true, true, true, true, true, true, true, true, true, true] (fun ⟨g, ⟨A3, c3⟩, ⟨A4, c4⟩, A5, c5⟩ => [(15, .agg #[.bool (decide (p.num * q.den < 0)), .slice A3 (dg (p.num * q.den).natAbs).length c3]), (21, .agg #[.bool (decide (q.num * p.den < 0)), .slice A4 (dg (q.num * p.den).natAbs).length c4]), (22, .agg #[.bool (decide (p.num * q.den + q.num * p.den < 0)), .slice A5 (dg (p.num * q.den + q.num * p.den).natAbs).length c5]), (5, .pointer (some ⟨g, 0, none⟩))]) (fun ⟨g, ⟨A3, c3⟩, ⟨A4, c4⟩, A5, c5⟩ W' => w.heap.size + 3 ≤ g ∧ Fr w W' [(w.heap.size + 2, [.bool false, .slice none 0 0, .slice none 0 0]), (w.heap.size + 1, [.bool (decide (q.num < 0)), .slice A2 (dg q.num.natAbs).length c2, .slice B2 (dg q.den).length d2]), (w.heap.size, [.bool (decide (p.num < 0)), .slice A1 (dg p.num.natAbs).length c1, .slice B1 (dg p.den).length d1]), (g, [.bool (decide (p.num * q.den + q.num * p.den < 0)), .slice A5 (dg (p.num * q.den + q.num * p.den).natAbs).length c5])] ∧ InQ W' A1 c1 B1 d1 p ∧ InQ W' A2 c2 B2 d2 q ∧ In W' A5 c5 (dg (p.num * q.den + q.num * p.den).natAbs)) ?hc0 ?hm0
 case hm0 =>
  intro hcont
  refine two_ (i := 5) (j := 13) (Ni := (some 15)) (Nj := (some 5)) #[true, true, true, true, true, true, true, true, true, true, true, false, false, false, false] #[true, true, true, true, true, false, true, true, true, true, true, false, false, true, false] rfl rfl rfl rfl (by kernel_rfl) (by decide) (by decide) (fun K hK => ?_) (fun K hK => ?_)
  · refine goes_ Tryz.func206 (by kernel_rfl) rfl #[.agg #[.bool (decide (p.num < 0)), .slice A1 (dg p.num.natAbs).length c1], .agg #[.bool false, .slice B2 (dg q.den).length d2]] (by rfl) rfl rfl (by (try simp only [List.map_toArray, List.map_cons, List.map_nil]); first | done | rfl) ?_
    refine (hM1.out W A1 c1 B1 d1 A2 c2 B2 d2 Q1.out Q2.out).mono ?_
    rintro e W1 ⟨A3, c3, rfl, q1, q2, q3⟩
    refine ⟨_, rfl, ?_⟩
    replace HF := Lib.hid (HF.out.below q3)
    replace Q1 := Lib.hid (Q1.out.below q3)
    replace Q2 := Lib.hid (Q2.out.below q3)
    have Q3 := Lib.hid (In.dg q2 q1)
    clear q1 q2 q3
    refine hK.out _ _ ⟨HF.out.cellN 2 rfl 0 rfl, HF.out.cellN 2 rfl 1 rfl, HF.out.cellN 2 rfl 2 rfl, HF.out.cellN 1 rfl 0 rfl, HF.out.cellN 1 rfl 1 rfl, HF.out.cellN 1 rfl 2 rfl⟩ (fun hHeld => ?_)
    clear hK K
    refine norm_ (a' := ?_) ?_ ?_
    rotate_left
    · show Act.put _ (some 15) _ = _
      simp only [Act.put, sa_, sb_, sc_]
      rfl
    refine two_ (i := 11) (j := 13) (Ni := (some 21)) (Nj := (some 5)) #[true, true, true, true, true, true, true, true, true, true, true, true, false, false, false] #[true, true, true, true, true, true, true, true, true, true, true, false, false, true, false] rfl rfl rfl rfl (by kernel_rfl) (by decide) (by decide) (fun K hK => ?_) (fun K hK => ?_)
    · refine goes_ Tryz.func206 (by kernel_rfl) rfl #[.agg #[.bool (decide (q.num < 0)), .slice A2 (dg q.num.natAbs).length c2], .agg #[.bool false, .slice B1 (dg p.den).length d1]] (by rfl) rfl rfl (by (try simp only [List.map_toArray, List.map_cons, List.map_nil]); first | done | rfl) ?_
      refine (hM2.out W1 A1 c1 B1 d1 A2 c2 B2 d2 Q1.out Q2.out).mono ?_
      rintro e W2 ⟨A4, c4, rfl, q1, q2, q3⟩
      refine ⟨_, rfl, ?_⟩
      replace HF := Lib.hid (HF.out.below q3)
      replace Q1 := Lib.hid (Q1.out.below q3)
      replace Q2 := Lib.hid (Q2.out.below q3)
      replace Q3 := Lib.hid (Q3.out.below q3)
      have Q4 := Lib.hid (In.dg q2 q1)
      clear q1 q2 q3
      refine hK.out _ _ ⟨HF.out.cellN 2 rfl 0 rfl, HF.out.cellN 2 rfl 1 rfl, HF.out.cellN 2 rfl 2 rfl, HF.out.cellN 1 rfl 0 rfl, HF.out.cellN 1 rfl 1 rfl, HF.out.cellN 1 rfl 2 rfl⟩ (fun hHeld => ?_)
      clear hK K
      refine norm_ (a' := ?_) ?_ ?_
      rotate_left
      · show Act.put _ (some 21) _ = _
        simp only [Act.put, sa_, sb_, sc_]
        rfl
      refine two_ (i := 12) (j := 13) (Ni := (some 22)) (Nj := (some 5)) #[true, true, true, true, true, true, true, true, true, true, true, true, true, false, false] #[true, true, true, true, true, true, true, true, true, true, true, true, false, true, false] rfl rfl rfl rfl (by kernel_rfl) (by decide) (by decide) (fun K hK => ?_) (fun K hK => ?_)
      · refine goes_ Tryz.func205 (by kernel_rfl) rfl #[.agg #[.bool (decide (p.num * q.den < 0)), .slice A3 (dg (p.num * q.den).natAbs).length c3], .agg #[.bool (decide (q.num * p.den < 0)), .slice A4 (dg (q.num * p.den).natAbs).length c4]] (by rfl) rfl rfl (by (try simp only [List.map_toArray, List.map_cons, List.map_nil]); first | done | rfl) ?_
        refine (hA.out W2 A3 c3 A4 c4 Q3.out Q4.out).mono ?_
        rintro e W3 ⟨A5, c5, rfl, q1, q2, q3⟩
        refine ⟨_, rfl, ?_⟩
        replace HF := Lib.hid (HF.out.below q3)
        replace Q1 := Lib.hid (Q1.out.below q3)
        replace Q2 := Lib.hid (Q2.out.below q3)
        have Q5 := Lib.hid (In.dg q2 q1)
        clear q1 q2 q3 Q3 Q4
        refine hK.out _ _ ⟨HF.out.cellN 2 rfl 0 rfl, HF.out.cellN 2 rfl 1 rfl, HF.out.cellN 2 rfl 2 rfl, HF.out.cellN 1 rfl 0 rfl, HF.out.cellN 1 rfl 1 rfl, HF.out.cellN 1 rfl 2 rfl⟩ (fun hHeld => ?_)
        clear hK K
        refine norm_ (a' := ?_) ?_ ?_
        rotate_left
        · show Act.put _ (some 22) _ = _
          simp only [Act.put, sa_, sb_, sc_]
          rfl
        refine one_ (i := 13) (N := (some 5)) #[true, true, true, true, true, true, true, true, true, true, true, true, true, true, false] rfl rfl (by kernel_rfl) (by decide) (fun K hK => ?_)
        refine value_ (v := ?_) (w1 := ?_) (by rfl) rfl ?_ ?_
        rotate_left
        rotate_left
        · go_simp
          first | rfl | (refine ⟨?_, ?_⟩ <;> rfl)
        have hgw : w.heap.size + 3 ≤ W3.heap.size := by have := HF.out.ltN 0 rfl; omega
        replace Q1 := Lib.hid (Q1.out.below ((Below.refl _ W3).alloc (Nat.le_refl _) (.cells #[.bool false, .slice none 0 0] 41)))
        replace Q2 := Lib.hid (Q2.out.below ((Below.refl _ W3).alloc (Nat.le_refl _) (.cells #[.bool false, .slice none 0 0] 41)))
        try replace Q3 := Lib.hid (Q3.out.below ((Below.refl _ W3).alloc (Nat.le_refl _) (.cells #[.bool false, .slice none 0 0] 41)))
        try replace Q4 := Lib.hid (Q4.out.below ((Below.refl _ W3).alloc (Nat.le_refl _) (.cells #[.bool false, .slice none 0 0] 41)))
        try replace Q5 := Lib.hid (Q5.out.below ((Below.refl _ W3).alloc (Nat.le_refl _) (.cells #[.bool false, .slice none 0 0] 41)))
        replace HF := Lib.hid (HF.out.boxEnd [.bool false, .slice none 0 0] 41)
        refine hK.out _ _ ⟨HF.out.cellN 2 rfl 0 rfl, HF.out.cellN 2 rfl 1 rfl, HF.out.cellN 2 rfl 2 rfl, HF.out.cellN 1 rfl 0 rfl, HF.out.cellN 1 rfl 1 rfl, HF.out.cellN 1 rfl 2 rfl⟩ (fun hHeld => ?_)
        clear hK K
        refine norm_ (a' := ?_) ?_ ?_
        rotate_left
        · show Act.put _ (some 5) _ = _
          simp only [Act.put, sa_, sb_, sc_]
          rfl
        obtain ⟨g, hg⟩ : ∃ g, g = W3.heap.size := ⟨_, rfl⟩
        obtain ⟨W4, hV⟩ : ∃ X, X = W3.alloc (.cells #[.bool false, .slice none 0 0] 41) := ⟨_, rfl⟩
        rw [← hg] at HF hgw ⊢
        rw [← hV] at HF Q1 Q2 ⊢
        try rw [← hV] at Q3
        try rw [← hV] at Q4
        try rw [← hV] at Q5
        clear hg hV
        refine one_ (i := 14) (N := none) #[true, true, true, true, true, true, true, true, true, true, true, true, true, true, true] rfl rfl (by kernel_rfl) (by decide) (fun K hK => ?_)
        have hf0 := HF.out.frozenN 3 rfl 0
        have hf1 := HF.out.frozenN 3 rfl 1
        have hd0 := HF.out.cellN 3 rfl 0 rfl
        have hd1 := HF.out.cellN 3 rfl 1 rfl
        refine skip_ (w1 := ?_) (by rfl) rfl ?_ ?_
        rotate_left
        · go_simp
          rfl
        replace Q1 := Lib.hid (Q1.out.put2 (HF.out.ownN 3 rfl) (by simp) (a := .bool (decide (p.num * q.den + q.num * p.den < 0))) (by simp) (.slice A5 (dg (p.num * q.den + q.num * p.den).natAbs).length c5))
        replace Q2 := Lib.hid (Q2.out.put2 (HF.out.ownN 3 rfl) (by simp) (a := .bool (decide (p.num * q.den + q.num * p.den < 0))) (by simp) (.slice A5 (dg (p.num * q.den + q.num * p.den).natAbs).length c5))
        replace Q5 := Lib.hid (Q5.out.put2 (HF.out.ownN 3 rfl) (by simp) (a := .bool (decide (p.num * q.den + q.num * p.den < 0))) (by simp) (.slice A5 (dg (p.num * q.den + q.num * p.den).natAbs).length c5))
        replace HF := Lib.hid (HF.out.put2 3 rfl (by omega) (by simp; omega) (.bool (decide (p.num * q.den + q.num * p.den < 0))) (.slice A5 (dg (p.num * q.den + q.num * p.den).natAbs).length c5))
        refine hK.out _ _ ⟨HF.out.cellN 2 rfl 0 rfl, HF.out.cellN 2 rfl 1 rfl, HF.out.cellN 2 rfl 2 rfl, HF.out.cellN 1 rfl 0 rfl, HF.out.cellN 1 rfl 1 rfl, HF.out.cellN 1 rfl 2 rfl⟩ (fun hHeld => ?_)
        clear hK K
        exact hcont (g, (A3, c3), (A4, c4), A5, c5) _ ⟨hgw, HF.out, Q1.out, Q2.out, Q5.out⟩
      · refine value_ (v := ?_) (w1 := ?_) (by rfl) rfl ?_ ?_
        rotate_left
        rotate_left
        · go_simp
          first | rfl | (refine ⟨?_, ?_⟩ <;> rfl)
        have hgw : w.heap.size + 3 ≤ W2.heap.size := by have := HF.out.ltN 0 rfl; omega
        replace Q1 := Lib.hid (Q1.out.below ((Below.refl _ W2).alloc (Nat.le_refl _) (.cells #[.bool false, .slice none 0 0] 41)))
        replace Q2 := Lib.hid (Q2.out.below ((Below.refl _ W2).alloc (Nat.le_refl _) (.cells #[.bool false, .slice none 0 0] 41)))
        try replace Q3 := Lib.hid (Q3.out.below ((Below.refl _ W2).alloc (Nat.le_refl _) (.cells #[.bool false, .slice none 0 0] 41)))
        try replace Q4 := Lib.hid (Q4.out.below ((Below.refl _ W2).alloc (Nat.le_refl _) (.cells #[.bool false, .slice none 0 0] 41)))
        try replace Q5 := Lib.hid (Q5.out.below ((Below.refl _ W2).alloc (Nat.le_refl _) (.cells #[.bool false, .slice none 0 0] 41)))
        replace HF := Lib.hid (HF.out.boxEnd [.bool false, .slice none 0 0] 41)
        refine hK.out _ _ ⟨HF.out.cellN 2 rfl 0 rfl, HF.out.cellN 2 rfl 1 rfl, HF.out.cellN 2 rfl 2 rfl, HF.out.cellN 1 rfl 0 rfl, HF.out.cellN 1 rfl 1 rfl, HF.out.cellN 1 rfl 2 rfl⟩ (fun hHeld => ?_)
        clear hK K
        refine norm_ (a' := ?_) ?_ ?_
        rotate_left
        · show Act.put _ (some 5) _ = _
          simp only [Act.put, sa_, sb_, sc_]
          rfl
        obtain ⟨g, hg⟩ : ∃ g, g = W2.heap.size := ⟨_, rfl⟩
        obtain ⟨W5, hV⟩ : ∃ X, X = W2.alloc (.cells #[.bool false, .slice none 0 0] 41) := ⟨_, rfl⟩
        rw [← hg] at HF hgw ⊢
        rw [← hV] at HF Q1 Q2 ⊢
        try rw [← hV] at Q3
        try rw [← hV] at Q4
        try rw [← hV] at Q5
        clear hg hV
        refine one_ (i := 12) (N := (some 22)) #[true, true, true, true, true, true, true, true, true, true, true, true, true, true, false] rfl rfl (by kernel_rfl) (by decide) (fun K hK => ?_)
        refine goes_ Tryz.func205 (by kernel_rfl) rfl #[.agg #[.bool (decide (p.num * q.den < 0)), .slice A3 (dg (p.num * q.den).natAbs).length c3], .agg #[.bool (decide (q.num * p.den < 0)), .slice A4 (dg (q.num * p.den).natAbs).length c4]] (by rfl) rfl rfl (by (try simp only [List.map_toArray, List.map_cons, List.map_nil]); first | done | rfl) ?_
        refine (hA.out W5 A3 c3 A4 c4 Q3.out Q4.out).mono ?_
        rintro e W6 ⟨A5, c5, rfl, q1, q2, q3⟩
        refine ⟨_, rfl, ?_⟩
        replace HF := Lib.hid (HF.out.below q3)
        replace Q1 := Lib.hid (Q1.out.below q3)
        replace Q2 := Lib.hid (Q2.out.below q3)
        have Q5 := Lib.hid (In.dg q2 q1)
        clear q1 q2 q3 Q3 Q4
        refine hK.out _ _ ⟨HF.out.cellN 2 rfl 0 rfl, HF.out.cellN 2 rfl 1 rfl, HF.out.cellN 2 rfl 2 rfl, HF.out.cellN 1 rfl 0 rfl, HF.out.cellN 1 rfl 1 rfl, HF.out.cellN 1 rfl 2 rfl⟩ (fun hHeld => ?_)
        clear hK K
        refine norm_ (a' := ?_) ?_ ?_
        rotate_left
        · show Act.put _ (some 22) _ = _
          simp only [Act.put, sa_, sb_, sc_]
          rfl
        refine one_ (i := 14) (N := none) #[true, true, true, true, true, true, true, true, true, true, true, true, true, true, true] rfl rfl (by kernel_rfl) (by decide) (fun K hK => ?_)
        have hf0 := HF.out.frozenN 3 rfl 0
        have hf1 := HF.out.frozenN 3 rfl 1
        have hd0 := HF.out.cellN 3 rfl 0 rfl
        have hd1 := HF.out.cellN 3 rfl 1 rfl
        refine skip_ (w1 := ?_) (by rfl) rfl ?_ ?_
        rotate_left
        · go_simp
          rfl
        replace Q1 := Lib.hid (Q1.out.put2 (HF.out.ownN 3 rfl) (by simp) (a := .bool (decide (p.num * q.den + q.num * p.den < 0))) (by simp) (.slice A5 (dg (p.num * q.den + q.num * p.den).natAbs).length c5))
        replace Q2 := Lib.hid (Q2.out.put2 (HF.out.ownN 3 rfl) (by simp) (a := .bool (decide (p.num * q.den + q.num * p.den < 0))) (by simp) (.slice A5 (dg (p.num * q.den + q.num * p.den).natAbs).length c5))
        replace Q5 := Lib.hid (Q5.out.put2 (HF.out.ownN 3 rfl) (by simp) (a := .bool (decide (p.num * q.den + q.num * p.den < 0))) (by simp) (.slice A5 (dg (p.num * q.den + q.num * p.den).natAbs).length c5))
        replace HF := Lib.hid (HF.out.put2 3 rfl (by omega) (by simp; omega) (.bool (decide (p.num * q.den + q.num * p.den < 0))) (.slice A5 (dg (p.num * q.den + q.num * p.den).natAbs).length c5))
        refine hK.out _ _ ⟨HF.out.cellN 2 rfl 0 rfl, HF.out.cellN 2 rfl 1 rfl, HF.out.cellN 2 rfl 2 rfl, HF.out.cellN 1 rfl 0 rfl, HF.out.cellN 1 rfl 1 rfl, HF.out.cellN 1 rfl 2 rfl⟩ (fun hHeld => ?_)
        clear hK K
        exact hcont (g, (A3, c3), (A4, c4), A5, c5) _ ⟨hgw, HF.out, Q1.out, Q2.out, Q5.out⟩
    · refine value_ (v := ?_) (w1 := ?_) (by rfl) rfl ?_ ?_
      rotate_left
      rotate_left
      · go_simp
        first | rfl | (refine ⟨?_, ?_⟩ <;> rfl)
      have hgw : w.heap.size + 3 ≤ W1.heap.size := by have := HF.out.ltN 0 rfl; omega
      replace Q1 := Lib.hid (Q1.out.below ((Below.refl _ W1).alloc (Nat.le_refl _) (.cells #[.bool false, .slice none 0 0] 41)))
      replace Q2 := Lib.hid (Q2.out.below ((Below.refl _ W1).alloc (Nat.le_refl _) (.cells #[.bool false, .slice none 0 0] 41)))
      try replace Q3 := Lib.hid (Q3.out.below ((Below.refl _ W1).alloc (Nat.le_refl _) (.cells #[.bool false, .slice none 0 0] 41)))
      try replace Q4 := Lib.hid (Q4.out.below ((Below.refl _ W1).alloc (Nat.le_refl _) (.cells #[.bool false, .slice none 0 0] 41)))
      try replace Q5 := Lib.hid (Q5.out.below ((Below.refl _ W1).alloc (Nat.le_refl _) (.cells #[.bool false, .slice none 0 0] 41)))
      replace HF := Lib.hid (HF.out.boxEnd [.bool false, .slice none 0 0] 41)
      refine hK.out _ _ ⟨HF.out.cellN 2 rfl 0 rfl, HF.out.cellN 2 rfl 1 rfl, HF.out.cellN 2 rfl 2 rfl, HF.out.cellN 1 rfl 0 rfl, HF.out.cellN 1 rfl 1 rfl, HF.out.cellN 1 rfl 2 rfl⟩ (fun hHeld => ?_)
      clear hK K
      refine norm_ (a' := ?_) ?_ ?_
      rotate_left
      · show Act.put _ (some 5) _ = _
        simp only [Act.put, sa_, sb_, sc_]
        rfl
      obtain ⟨g, hg⟩ : ∃ g, g = W1.heap.size := ⟨_, rfl⟩
      obtain ⟨W7, hV⟩ : ∃ X, X = W1.alloc (.cells #[.bool false, .slice none 0 0] 41) := ⟨_, rfl⟩
      rw [← hg] at HF hgw ⊢
      rw [← hV] at HF Q1 Q2 ⊢
      try rw [← hV] at Q3
      try rw [← hV] at Q4
      try rw [← hV] at Q5
      clear hg hV
      refine one_ (i := 11) (N := (some 21)) #[true, true, true, true, true, true, true, true, true, true, true, true, false, true, false] rfl rfl (by kernel_rfl) (by decide) (fun K hK => ?_)
      refine goes_ Tryz.func206 (by kernel_rfl) rfl #[.agg #[.bool (decide (q.num < 0)), .slice A2 (dg q.num.natAbs).length c2], .agg #[.bool false, .slice B1 (dg p.den).length d1]] (by rfl) rfl rfl (by (try simp only [List.map_toArray, List.map_cons, List.map_nil]); first | done | rfl) ?_
      refine (hM2.out W7 A1 c1 B1 d1 A2 c2 B2 d2 Q1.out Q2.out).mono ?_
      rintro e W8 ⟨A4, c4, rfl, q1, q2, q3⟩
      refine ⟨_, rfl, ?_⟩
      replace HF := Lib.hid (HF.out.below q3)
      replace Q1 := Lib.hid (Q1.out.below q3)
      replace Q2 := Lib.hid (Q2.out.below q3)
      replace Q3 := Lib.hid (Q3.out.below q3)
      have Q4 := Lib.hid (In.dg q2 q1)
      clear q1 q2 q3
      refine hK.out _ _ ⟨HF.out.cellN 2 rfl 0 rfl, HF.out.cellN 2 rfl 1 rfl, HF.out.cellN 2 rfl 2 rfl, HF.out.cellN 1 rfl 0 rfl, HF.out.cellN 1 rfl 1 rfl, HF.out.cellN 1 rfl 2 rfl⟩ (fun hHeld => ?_)
      clear hK K
      refine norm_ (a' := ?_) ?_ ?_
      rotate_left
      · show Act.put _ (some 21) _ = _
        simp only [Act.put, sa_, sb_, sc_]
        rfl
      refine one_ (i := 12) (N := (some 22)) #[true, true, true, true, true, true, true, true, true, true, true, true, true, true, false] rfl rfl (by kernel_rfl) (by decide) (fun K hK => ?_)
      refine goes_ Tryz.func205 (by kernel_rfl) rfl #[.agg #[.bool (decide (p.num * q.den < 0)), .slice A3 (dg (p.num * q.den).natAbs).length c3], .agg #[.bool (decide (q.num * p.den < 0)), .slice A4 (dg (q.num * p.den).natAbs).length c4]] (by rfl) rfl rfl (by (try simp only [List.map_toArray, List.map_cons, List.map_nil]); first | done | rfl) ?_
      refine (hA.out W8 A3 c3 A4 c4 Q3.out Q4.out).mono ?_
      rintro e W9 ⟨A5, c5, rfl, q1, q2, q3⟩
      refine ⟨_, rfl, ?_⟩
      replace HF := Lib.hid (HF.out.below q3)
      replace Q1 := Lib.hid (Q1.out.below q3)
      replace Q2 := Lib.hid (Q2.out.below q3)
      have Q5 := Lib.hid (In.dg q2 q1)
      clear q1 q2 q3 Q3 Q4
      refine hK.out _ _ ⟨HF.out.cellN 2 rfl 0 rfl, HF.out.cellN 2 rfl 1 rfl, HF.out.cellN 2 rfl 2 rfl, HF.out.cellN 1 rfl 0 rfl, HF.out.cellN 1 rfl 1 rfl, HF.out.cellN 1 rfl 2 rfl⟩ (fun hHeld => ?_)
      clear hK K
      refine norm_ (a' := ?_) ?_ ?_
      rotate_left
      · show Act.put _ (some 22) _ = _
        simp only [Act.put, sa_, sb_, sc_]
        rfl
      refine one_ (i := 14) (N := none) #[true, true, true, true, true, true, true, true, true, true, true, true, true, true, true] rfl rfl (by kernel_rfl) (by decide) (fun K hK => ?_)
      have hf0 := HF.out.frozenN 3 rfl 0
      have hf1 := HF.out.frozenN 3 rfl 1
      have hd0 := HF.out.cellN 3 rfl 0 rfl
      have hd1 := HF.out.cellN 3 rfl 1 rfl
      refine skip_ (w1 := ?_) (by rfl) rfl ?_ ?_
      rotate_left
      · go_simp
        rfl
      replace Q1 := Lib.hid (Q1.out.put2 (HF.out.ownN 3 rfl) (by simp) (a := .bool (decide (p.num * q.den + q.num * p.den < 0))) (by simp) (.slice A5 (dg (p.num * q.den + q.num * p.den).natAbs).length c5))
      replace Q2 := Lib.hid (Q2.out.put2 (HF.out.ownN 3 rfl) (by simp) (a := .bool (decide (p.num * q.den + q.num * p.den < 0))) (by simp) (.slice A5 (dg (p.num * q.den + q.num * p.den).natAbs).length c5))
      replace Q5 := Lib.hid (Q5.out.put2 (HF.out.ownN 3 rfl) (by simp) (a := .bool (decide (p.num * q.den + q.num * p.den < 0))) (by simp) (.slice A5 (dg (p.num * q.den + q.num * p.den).natAbs).length c5))
      replace HF := Lib.hid (HF.out.put2 3 rfl (by omega) (by simp; omega) (.bool (decide (p.num * q.den + q.num * p.den < 0))) (.slice A5 (dg (p.num * q.den + q.num * p.den).natAbs).length c5))
      refine hK.out _ _ ⟨HF.out.cellN 2 rfl 0 rfl, HF.out.cellN 2 rfl 1 rfl, HF.out.cellN 2 rfl 2 rfl, HF.out.cellN 1 rfl 0 rfl, HF.out.cellN 1 rfl 1 rfl, HF.out.cellN 1 rfl 2 rfl⟩ (fun hHeld => ?_)
      clear hK K
      exact hcont (g, (A3, c3), (A4, c4), A5, c5) _ ⟨hgw, HF.out, Q1.out, Q2.out, Q5.out⟩
  · refine value_ (v := ?_) (w1 := ?_) (by rfl) rfl ?_ ?_
    rotate_left
    rotate_left
    · go_simp
      first | rfl | (refine ⟨?_, ?_⟩ <;> rfl)
    have hgw : w.heap.size + 3 ≤ W.heap.size := by have := HF.out.ltN 0 rfl; omega
    replace Q1 := Lib.hid (Q1.out.below ((Below.refl _ W).alloc (Nat.le_refl _) (.cells #[.bool false, .slice none 0 0] 41)))
    replace Q2 := Lib.hid (Q2.out.below ((Below.refl _ W).alloc (Nat.le_refl _) (.cells #[.bool false, .slice none 0 0] 41)))
    try replace Q3 := Lib.hid (Q3.out.below ((Below.refl _ W).alloc (Nat.le_refl _) (.cells #[.bool false, .slice none 0 0] 41)))
    try replace Q4 := Lib.hid (Q4.out.below ((Below.refl _ W).alloc (Nat.le_refl _) (.cells #[.bool false, .slice none 0 0] 41)))
    try replace Q5 := Lib.hid (Q5.out.below ((Below.refl _ W).alloc (Nat.le_refl _) (.cells #[.bool false, .slice none 0 0] 41)))
    replace HF := Lib.hid (HF.out.boxEnd [.bool false, .slice none 0 0] 41)
    refine hK.out _ _ ⟨HF.out.cellN 2 rfl 0 rfl, HF.out.cellN 2 rfl 1 rfl, HF.out.cellN 2 rfl 2 rfl, HF.out.cellN 1 rfl 0 rfl, HF.out.cellN 1 rfl 1 rfl, HF.out.cellN 1 rfl 2 rfl⟩ (fun hHeld => ?_)
    clear hK K
    refine norm_ (a' := ?_) ?_ ?_
    rotate_left
    · show Act.put _ (some 5) _ = _
      simp only [Act.put, sa_, sb_, sc_]
      rfl
    obtain ⟨g, hg⟩ : ∃ g, g = W.heap.size := ⟨_, rfl⟩
    obtain ⟨W10, hV⟩ : ∃ X, X = W.alloc (.cells #[.bool false, .slice none 0 0] 41) := ⟨_, rfl⟩
    rw [← hg] at HF hgw ⊢
    rw [← hV] at HF Q1 Q2 ⊢
    try rw [← hV] at Q3
    try rw [← hV] at Q4
    try rw [← hV] at Q5
    clear hg hV
    refine one_ (i := 5) (N := (some 15)) #[true, true, true, true, true, true, true, true, true, true, true, false, false, true, false] rfl rfl (by kernel_rfl) (by decide) (fun K hK => ?_)
    refine goes_ Tryz.func206 (by kernel_rfl) rfl #[.agg #[.bool (decide (p.num < 0)), .slice A1 (dg p.num.natAbs).length c1], .agg #[.bool false, .slice B2 (dg q.den).length d2]] (by rfl) rfl rfl (by (try simp only [List.map_toArray, List.map_cons, List.map_nil]); first | done | rfl) ?_
    refine (hM1.out W10 A1 c1 B1 d1 A2 c2 B2 d2 Q1.out Q2.out).mono ?_
    rintro e W11 ⟨A3, c3, rfl, q1, q2, q3⟩
    refine ⟨_, rfl, ?_⟩
    replace HF := Lib.hid (HF.out.below q3)
    replace Q1 := Lib.hid (Q1.out.below q3)
    replace Q2 := Lib.hid (Q2.out.below q3)
    have Q3 := Lib.hid (In.dg q2 q1)
    clear q1 q2 q3
    refine hK.out _ _ ⟨HF.out.cellN 2 rfl 0 rfl, HF.out.cellN 2 rfl 1 rfl, HF.out.cellN 2 rfl 2 rfl, HF.out.cellN 1 rfl 0 rfl, HF.out.cellN 1 rfl 1 rfl, HF.out.cellN 1 rfl 2 rfl⟩ (fun hHeld => ?_)
    clear hK K
    refine norm_ (a' := ?_) ?_ ?_
    rotate_left
    · show Act.put _ (some 15) _ = _
      simp only [Act.put, sa_, sb_, sc_]
      rfl
    refine one_ (i := 11) (N := (some 21)) #[true, true, true, true, true, true, true, true, true, true, true, true, false, true, false] rfl rfl (by kernel_rfl) (by decide) (fun K hK => ?_)
    refine goes_ Tryz.func206 (by kernel_rfl) rfl #[.agg #[.bool (decide (q.num < 0)), .slice A2 (dg q.num.natAbs).length c2], .agg #[.bool false, .slice B1 (dg p.den).length d1]] (by rfl) rfl rfl (by (try simp only [List.map_toArray, List.map_cons, List.map_nil]); first | done | rfl) ?_
    refine (hM2.out W11 A1 c1 B1 d1 A2 c2 B2 d2 Q1.out Q2.out).mono ?_
    rintro e W12 ⟨A4, c4, rfl, q1, q2, q3⟩
    refine ⟨_, rfl, ?_⟩
    replace HF := Lib.hid (HF.out.below q3)
    replace Q1 := Lib.hid (Q1.out.below q3)
    replace Q2 := Lib.hid (Q2.out.below q3)
    replace Q3 := Lib.hid (Q3.out.below q3)
    have Q4 := Lib.hid (In.dg q2 q1)
    clear q1 q2 q3
    refine hK.out _ _ ⟨HF.out.cellN 2 rfl 0 rfl, HF.out.cellN 2 rfl 1 rfl, HF.out.cellN 2 rfl 2 rfl, HF.out.cellN 1 rfl 0 rfl, HF.out.cellN 1 rfl 1 rfl, HF.out.cellN 1 rfl 2 rfl⟩ (fun hHeld => ?_)
    clear hK K
    refine norm_ (a' := ?_) ?_ ?_
    rotate_left
    · show Act.put _ (some 21) _ = _
      simp only [Act.put, sa_, sb_, sc_]
      rfl
    refine one_ (i := 12) (N := (some 22)) #[true, true, true, true, true, true, true, true, true, true, true, true, true, true, false] rfl rfl (by kernel_rfl) (by decide) (fun K hK => ?_)
    refine goes_ Tryz.func205 (by kernel_rfl) rfl #[.agg #[.bool (decide (p.num * q.den < 0)), .slice A3 (dg (p.num * q.den).natAbs).length c3], .agg #[.bool (decide (q.num * p.den < 0)), .slice A4 (dg (q.num * p.den).natAbs).length c4]] (by rfl) rfl rfl (by (try simp only [List.map_toArray, List.map_cons, List.map_nil]); first | done | rfl) ?_
    refine (hA.out W12 A3 c3 A4 c4 Q3.out Q4.out).mono ?_
    rintro e W13 ⟨A5, c5, rfl, q1, q2, q3⟩
    refine ⟨_, rfl, ?_⟩
    replace HF := Lib.hid (HF.out.below q3)
    replace Q1 := Lib.hid (Q1.out.below q3)
    replace Q2 := Lib.hid (Q2.out.below q3)
    have Q5 := Lib.hid (In.dg q2 q1)
    clear q1 q2 q3 Q3 Q4
    refine hK.out _ _ ⟨HF.out.cellN 2 rfl 0 rfl, HF.out.cellN 2 rfl 1 rfl, HF.out.cellN 2 rfl 2 rfl, HF.out.cellN 1 rfl 0 rfl, HF.out.cellN 1 rfl 1 rfl, HF.out.cellN 1 rfl 2 rfl⟩ (fun hHeld => ?_)
    clear hK K
    refine norm_ (a' := ?_) ?_ ?_
    rotate_left
    · show Act.put _ (some 22) _ = _
      simp only [Act.put, sa_, sb_, sc_]
      rfl
    refine one_ (i := 14) (N := none) #[true, true, true, true, true, true, true, true, true, true, true, true, true, true, true] rfl rfl (by kernel_rfl) (by decide) (fun K hK => ?_)
    have hf0 := HF.out.frozenN 3 rfl 0
    have hf1 := HF.out.frozenN 3 rfl 1
    have hd0 := HF.out.cellN 3 rfl 0 rfl
    have hd1 := HF.out.cellN 3 rfl 1 rfl
    refine skip_ (w1 := ?_) (by rfl) rfl ?_ ?_
    rotate_left
    · go_simp
      rfl
    replace Q1 := Lib.hid (Q1.out.put2 (HF.out.ownN 3 rfl) (by simp) (a := .bool (decide (p.num * q.den + q.num * p.den < 0))) (by simp) (.slice A5 (dg (p.num * q.den + q.num * p.den).natAbs).length c5))
    replace Q2 := Lib.hid (Q2.out.put2 (HF.out.ownN 3 rfl) (by simp) (a := .bool (decide (p.num * q.den + q.num * p.den < 0))) (by simp) (.slice A5 (dg (p.num * q.den + q.num * p.den).natAbs).length c5))
    replace Q5 := Lib.hid (Q5.out.put2 (HF.out.ownN 3 rfl) (by simp) (a := .bool (decide (p.num * q.den + q.num * p.den < 0))) (by simp) (.slice A5 (dg (p.num * q.den + q.num * p.den).natAbs).length c5))
    replace HF := Lib.hid (HF.out.put2 3 rfl (by omega) (by simp; omega) (.bool (decide (p.num * q.den + q.num * p.den < 0))) (.slice A5 (dg (p.num * q.den + q.num * p.den).natAbs).length c5))
    refine hK.out _ _ ⟨HF.out.cellN 2 rfl 0 rfl, HF.out.cellN 2 rfl 1 rfl, HF.out.cellN 2 rfl 2 rfl, HF.out.cellN 1 rfl 0 rfl, HF.out.cellN 1 rfl 1 rfl, HF.out.cellN 1 rfl 2 rfl⟩ (fun hHeld => ?_)
    clear hK K
    exact hcont (g, (A3, c3), (A4, c4), A5, c5) _ ⟨hgw, HF.out, Q1.out, Q2.out, Q5.out⟩
 rintro ⟨g, ⟨A3, c3⟩, ⟨A4, c4⟩, A5, c5⟩ W ⟨hgw, hF_, q1, q2, q3⟩
 clear hHeld
 refine norm_ (a' := ?_) ?_ ?_
 rotate_left
 · show putAll _ _ = _
   simp only [putAll, Act.put, sa_, sb_, sc_]
   rfl
 refine done_ (by kernel_rfl) ?_
 have HF := Lib.hid hF_
 have Q1 := Lib.hid q1
 have Q2 := Lib.hid q2
 have Q5 := Lib.hid q3
 clear hF_ q1 q2 q3
 go_wp2_with fail
 replace Q1 := Lib.hid (Q1.out.below (Below.drew (Below.refl _ _)))
 replace Q2 := Lib.hid (Q2.out.below (Below.drew (Below.refl _ _)))
 replace Q5 := Lib.hid (Q5.out.below (Below.drew (Below.refl _ _)))
 have HF_ := Lib.hid HF.out.drew
 clear HF
 have HF := HF_
 clear HF_
 refine start_ (n := 8) (S := fun w' => w'.cell? ⟨w.heap.size, 0, none⟩ = some (.bool (decide (p.num < 0))) ∧ w'.cell? ⟨w.heap.size, 1, none⟩ = some (.slice A1 (dg p.num.natAbs).length c1) ∧ w'.cell? ⟨w.heap.size, 2, none⟩ = some (.slice B1 (dg p.den).length d1) ∧ w'.cell? ⟨w.heap.size + 1, 0, none⟩ = some (.bool (decide (q.num < 0))) ∧ w'.cell? ⟨w.heap.size + 1, 1, none⟩ = some (.slice A2 (dg q.num.natAbs).length c2) ∧ w'.cell? ⟨w.heap.size + 1, 2, none⟩ = some (.slice B2 (dg q.den).length d2) ∧ w'.cell? ⟨g, 0, none⟩ = some (.bool (decide (p.num * q.den + q.num * p.den < 0))) ∧ w'.cell? ⟨g, 1, none⟩ = some (.slice A5 (dg (p.num * q.den + q.num * p.den).natAbs).length c5)) (ds := []) #[false, false, false, false, false, false, false, false] (by kernel_rfl) rfl rfl ⟨HF.out.cellN 2 rfl 0 rfl, HF.out.cellN 2 rfl 1 rfl, HF.out.cellN 2 rfl 2 rfl, HF.out.cellN 1 rfl 0 rfl, HF.out.cellN 1 rfl 1 rfl, HF.out.cellN 1 rfl 2 rfl, HF.out.cellN 3 rfl 0 rfl, HF.out.cellN 3 rfl 1 rfl⟩ (fun hHeld => ?_)
 generalize World.drew _ = W at *
 refine pu_ (v := ?_) (a' := ?_) 1 (some 24) rfl rfl ?_ ?_ ?_
 rotate_left; · intro w'; go_simp; with_reducible rfl
 rotate_left
 · simp only [Act.put, sa_, sb_, sc_]
   rfl
 refine pu_ (v := ?_) (a' := ?_) 3 (some 26) rfl rfl ?_ ?_ ?_
 rotate_left; · intro w'; go_simp; with_reducible rfl
 rotate_left
 · simp only [Act.put, sa_, sb_, sc_]
   rfl
 refine tk_ (v := ?_) (a' := ?_) 0 (some 23) rfl rfl ?_ hHeld ?_ ?_
 rotate_left
 · rintro w' ⟨s0, s1, s2, s3, s4, s5, s6, s7⟩; go_simp; with_reducible rfl
 rotate_left
 · simp only [Act.put, sa_, sb_, sc_]
   rfl
 refine tk_ (v := ?_) (a' := ?_) 2 (some 25) rfl rfl ?_ hHeld ?_ ?_
 rotate_left
 · rintro w' ⟨s0, s1, s2, s3, s4, s5, s6, s7⟩; go_simp; with_reducible rfl
 rotate_left
 · simp only [Act.put, sa_, sb_, sc_]
   rfl
 refine tk_ (v := ?_) (a' := ?_) 4 (some 27) rfl rfl ?_ hHeld ?_ ?_
 rotate_left
 · rintro w' ⟨s0, s1, s2, s3, s4, s5, s6, s7⟩; go_simp; with_reducible rfl
 rotate_left
 · simp only [Act.put, sa_, sb_, sc_]
   rfl
 refine on_ 5 (N := (some 28)) rfl rfl (fun K hK => ?_)
 refine goes_ Tryz.func151 (by kernel_rfl) rfl #[.slice B1 (dg p.den).length d1, .slice B2 (dg q.den).length d2] (by rfl) rfl rfl (by (try simp only [List.map_toArray, List.map_cons, List.map_nil]); first | done | rfl) ?_
 refine (hD.out W A1 c1 B1 d1 A2 c2 B2 d2 Q1.out Q2.out).mono ?_
 rintro e W1 ⟨A6, c6, rfl, q1, q2, q3⟩
 refine ⟨_, rfl, ?_⟩
 replace HF := Lib.hid (HF.out.below q3)
 replace Q5 := Lib.hid (Q5.out.below q3)
 have Q6 := Lib.hid (In.dg q2 q1)
 clear q1 q2 q3 Q1 Q2
 refine hK.out _ _ ⟨HF.out.cellN 2 rfl 0 rfl, HF.out.cellN 2 rfl 1 rfl, HF.out.cellN 2 rfl 2 rfl, HF.out.cellN 1 rfl 0 rfl, HF.out.cellN 1 rfl 1 rfl, HF.out.cellN 1 rfl 2 rfl, HF.out.cellN 3 rfl 0 rfl, HF.out.cellN 3 rfl 1 rfl⟩ (fun hHeld => ?_)
 clear hK K
 refine norm_ (a' := ?_) ?_ ?_
 rotate_left
 · show Act.put _ (some 28) _ = _
   simp only [Act.put, sa_, sb_, sc_]
   rfl
 refine on_ 6 (N := (some 29)) rfl rfl (fun K hK => ?_)
 refine goes_ Tryz.func138 (by kernel_rfl) rfl #[.agg #[.bool (decide (p.num * q.den + q.num * p.den < 0)), .slice A5 (dg (p.num * q.den + q.num * p.den).natAbs).length c5], .slice A6 (dg (p.den * q.den)).length c6] (by rfl) rfl rfl (by (try simp only [List.map_toArray, List.map_cons, List.map_nil]); first | done | rfl) ?_
 refine (hG.out W1 A5 c5 A6 c6 Q5.out Q6.out).mono ?_
 rintro e W2 ⟨A7, c7, A8, c8, rfl, q1, q2, q3⟩
 refine ⟨_, rfl, ?_⟩
 replace HF := Lib.hid (HF.out.below q3)
 replace Q5 := Lib.hid q1
 replace Q6 := Lib.hid q2
 clear q1 q2 q3
 refine hK.out _ _ ⟨HF.out.cellN 2 rfl 0 rfl, HF.out.cellN 2 rfl 1 rfl, HF.out.cellN 2 rfl 2 rfl, HF.out.cellN 1 rfl 0 rfl, HF.out.cellN 1 rfl 1 rfl, HF.out.cellN 1 rfl 2 rfl, HF.out.cellN 3 rfl 0 rfl, HF.out.cellN 3 rfl 1 rfl⟩ (fun hHeld => ?_)
 clear hK K
 refine norm_ (a' := ?_) ?_ ?_
 rotate_left
 · show Act.put _ (some 29) _ = _
   simp only [Act.put, sa_, sb_, sc_]
   rfl
 refine on_ 7 (N := none) rfl rfl (fun K hK => ?_)
 have hf0 := HF.out.frozenN 0 rfl 0
 have hf1 := HF.out.frozenN 0 rfl 1
 have hf2 := HF.out.frozenN 0 rfl 2
 have hd0 := HF.out.cellN 0 rfl 0 rfl
 have hd1 := HF.out.cellN 0 rfl 1 rfl
 have hd2 := HF.out.cellN 0 rfl 2 rfl
 refine skip_ (w1 := ?_) (by rfl) rfl ?_ ?_
 rotate_left
 · go_simp
   rfl
 have HE := Lib.hid (end_rat HF.out (by simp) (by simp) (by omega) Q5.out Q6.out rfl)
 replace HF := Lib.hid (HF.out.put3 0 rfl (by omega) (by simp; omega) (.bool (decide (r.num < 0))) (.slice A7 (dg r.num.natAbs).length c7) (.slice A8 (dg r.den).length c8))
 refine hK.out _ _ ⟨HF.out.cellN 2 rfl 0 rfl, HF.out.cellN 2 rfl 1 rfl, HF.out.cellN 2 rfl 2 rfl, HF.out.cellN 1 rfl 0 rfl, HF.out.cellN 1 rfl 1 rfl, HF.out.cellN 1 rfl 2 rfl, HF.out.cellN 3 rfl 0 rfl, HF.out.cellN 3 rfl 1 rfl⟩ (fun hHeld => ?_)
 clear hK K
 refine done_ (by kernel_rfl) ?_
 generalize decide (r.num < 0) = b at HE ⊢
 go_wp2
 obtain ⟨f1, f2⟩ := HE.out
 exact post_own f2 rfl rfl rfl Tryz.underlying43 rfl (by kernel_rfl) f1
end Go.Proofs.YtidgpkccjcddgaaGreatDoor.F

/- The walks of package ratio, third part: Neg, Mul, Add. -/
import Derived.Test.YtchdoignomidjaaRatb
set_option linter.unusedVariables false
set_option linter.unusedSimpArgs false
namespace Go.Proofs.Ytchdoignomidjaa.F
open Go.RowKit Go.Shelf Go.Proofs.YtchdoignomidjaaW.PrintLast

/-- a canonical rational in memory -/
structure InQ (w : World) (A : Option Addr) (c : Nat) (B : Option Addr) (d : Nat) (q : Rat) : Prop where
  num : In w A c (dg q.num.natAbs)
  den : In w B d (dg q.den)
theorem InQ.below {w W : World} {A : Option Addr} {c : Nat} {B : Option Addr} {d : Nat} {q : Rat} (h : InQ w A c B d q) (hb : Below w.heap.size w W) : InQ W A c B d q := ⟨h.num.below hb, h.den.below hb⟩
theorem InQ.put3 {w : World} {A : Option Addr} {c : Nat} {B : Option Addr} {d : Nat} {q : Rat} {g : Nat} {x y z a b : Value} (h : InQ w A c B d q) (ho : Own w g [x, y, z]) (n0 : ∀ u, Value.int .u32 u ∉ [x, y, z]) (n1 : ∀ u, Value.int .u32 u ∉ [a, y, z]) (n2 : ∀ u, Value.int .u32 u ∉ [a, b, z]) (v : Value) :
    InQ (((w.setCell ⟨g, 0, none⟩ a).setCell ⟨g, 1, none⟩ b).setCell ⟨g, 2, none⟩ v) A c B d q := ⟨h.num.put3 ho n0 n1 n2 v, h.den.put3 ho n0 n1 n2 v⟩
theorem InQ.put2 {w : World} {A : Option Addr} {c : Nat} {B : Option Addr} {d : Nat} {q : Rat} {g : Nat} {x y a : Value} (h : InQ w A c B d q) (ho : Own w g [x, y]) (n0 : ∀ u, Value.int .u32 u ∉ [x, y]) (n1 : ∀ u, Value.int .u32 u ∉ [a, y]) (v : Value) :
    InQ ((w.setCell ⟨g, 0, none⟩ a).setCell ⟨g, 1, none⟩ v) A c B d q := ⟨h.num.put2 ho n0 n1 v, h.den.put2 ho n0 n1 v⟩
abbrev qv (q : Rat) (A : Option Addr) (c : Nat) (B : Option Addr) (d : Nat) : Value := .agg #[.bool (decide (q.num < 0)), .slice A (dg q.num.natAbs).length c, .slice B (dg q.den).length d]

set_option maxHeartbeats 1000000 in
set_option maxRecDepth 100000 in
theorem ratio_Neg (s : Bool) (A : Option Addr) (c : Nat) (xs : List Int) (B : Option Addr) (d : Nat) (ys : List Int) (w : World) (h : In w A c xs) (hm : xs.length ≤ 549755813888) (k : In w B d ys) (km : ys.length ≤ 549755813888) :
    Calls Try.prog 95 #[.agg #[.bool s, .slice A xs.length c, .slice B ys.length d]] w fun e w' => ToldQ w (- rv s xs ys) e w' := by
  have hN := Lib.hid (fun (W : World) (hb : Below w.heap.size w W) => ratio_Norm s A c xs B d ys W (h.below hb) hm (k.below hb) km)
  have hl := (rv_len s h.lim k.lim).1
  generalize rv s xs ys = q at *
  have hG := Lib.hid (fun (W : World) (A' : Option Addr) (c' : Nat) (hr : In W A' c' (dg q.num.natAbs)) => whole_Neg (decide (q.num < 0)) A' c' _ W hr (by omega))
  rw [iv_can, ← Rat.neg_num] at hG
  have hden : (-q).den = q.den := Rat.neg_den q
  generalize -q = r at *
  have HD := Lib.hid hden
  clear h k hl hden
  have HF := Lib.hid (((Fr.refl w).box [.bool s, .slice A xs.length c, .slice B ys.length d] 31).box [.bool false, .slice none 0 0, .slice none 0 0] 31)
  have hsz : (w.alloc (.cells #[.bool s, .slice A xs.length c, .slice B ys.length d] 31)).heap.size = w.heap.size + 1 := by simp
  rw [show [Value.bool s, Value.slice A xs.length c, Value.slice B ys.length d].toArray = #[Value.bool s, Value.slice A xs.length c, Value.slice B ys.length d] from rfl, hsz] at HF
  clear hsz
  go_enter Try.func95, Try.ntmps95
  go_wp2_with fail
  refine (hN.out _ HF.out.bel).mono ?_
  rintro e W1 ⟨A2, c2, B2, d2, rfl, q1, q2, q3⟩
  replace HF := Lib.hid (HF.out.below q3)
  have Q1 := Lib.hid (InQ.mk q1 q2)
  clear q1 q2 q3
  have hf0 := HF.out.frozenN 1 rfl 0
  have hf1 := HF.out.frozenN 1 rfl 1
  have hf2 := HF.out.frozenN 1 rfl 2
  have hd0 := HF.out.cellN 1 rfl 0 rfl
  have hd1 := HF.out.cellN 1 rfl 1 rfl
  have hd2 := HF.out.cellN 1 rfl 2 rfl
  replace Q1 := Lib.hid (Q1.out.put3 (HF.out.ownN 1 rfl) (by simp) (a := .bool (decide (q.num < 0))) (by simp) (b := .slice A2 (dg q.num.natAbs).length c2) (by simp) (.slice B2 (dg q.den).length d2))
  replace HF := Lib.hid (HF.out.put3 1 rfl (by omega) (by simp) (.bool (decide (q.num < 0))) (.slice A2 (dg q.num.natAbs).length c2) (.slice B2 (dg q.den).length d2))
  go_wp2_with fail
  clear hf0 hf1 hf2 hd0 hd1 hd2
  generalize ((W1.setCell ⟨w.heap.size, 0, none⟩ (.bool (decide (q.num < 0)))).setCell ⟨w.heap.size, 1, none⟩ (.slice A2 (dg q.num.natAbs).length c2)).setCell ⟨w.heap.size, 2, none⟩ (.slice B2 (dg q.den).length d2) = W at *
  replace Q1 := Lib.hid (Q1.out.below (Below.drew (Below.refl _ _)))
  have HF_ := Lib.hid HF.out.drew
  clear HF
  have HF := HF_
  clear HF_
  refine start_ (n := 7) (S := fun w' => w'.cell? ⟨w.heap.size, 0, none⟩ = some (.bool (decide (q.num < 0))) ∧ w'.cell? ⟨w.heap.size, 1, none⟩ = some (.slice A2 (dg q.num.natAbs).length c2) ∧ w'.cell? ⟨w.heap.size, 2, none⟩ = some (.slice B2 (dg q.den).length d2)) (ds := []) #[false, false, false, false, false, false, false] (by kernel_rfl) rfl rfl ⟨HF.out.cellN 1 rfl 0 rfl, HF.out.cellN 1 rfl 1 rfl, HF.out.cellN 1 rfl 2 rfl⟩ (fun hHeld => ?_)
  generalize World.drew _ = W at *
  refine pure_ (i := 0) (N := (some 5)) (v := ?_) (a' := ?_) #[true, false, false, false, false, false, false] rfl rfl (by kernel_rfl) (fun _ _ _ h => h) (Or.inl ⟨by rfl, ?_⟩) ?_ ?_
  rotate_left
  · intro w'
    go_simp
    with_reducible rfl
  rotate_left
  · simp only [Act.put, List.setIfInBounds_toArray, List.set_cons_zero, List.set_cons_succ]
    rfl
  refine pure_ (i := 3) (N := (some 8)) (v := ?_) (a' := ?_) #[true, false, false, true, false, false, false] rfl rfl (by kernel_rfl) (fun _ _ _ h => h) (Or.inl ⟨by rfl, ?_⟩) ?_ ?_
  rotate_left
  · intro w'
    go_simp
    with_reducible rfl
  rotate_left
  · simp only [Act.put, List.setIfInBounds_toArray, List.set_cons_zero, List.set_cons_succ]
    rfl
  refine take_ (i := 1) (N := (some 6)) (v := ?_) (a' := ?_) #[true, true, false, true, false, false, false] rfl rfl (by kernel_rfl) (fun _ _ _ h => h) (Or.inl ⟨by rfl, ?_⟩) hHeld ?_ ?_
  rotate_left
  · rintro w' ⟨s0, s1, s2⟩
    go_simp
    with_reducible rfl
  rotate_left
  · simp only [Act.put, List.setIfInBounds_toArray, List.set_cons_zero, List.set_cons_succ]
    rfl
  refine take_ (i := 4) (N := (some 9)) (v := ?_) (a' := ?_) #[true, true, false, true, true, false, false] rfl rfl (by kernel_rfl) (fun _ _ _ h => h) (Or.inl ⟨by rfl, ?_⟩) hHeld ?_ ?_
  rotate_left
  · rintro w' ⟨s0, s1, s2⟩
    go_simp
    with_reducible rfl
  rotate_left
  · simp only [Act.put, List.setIfInBounds_toArray, List.set_cons_zero, List.set_cons_succ]
    rfl
  refine one_ (i := 2) (N := (some 7)) #[true, true, true, true, true, false, false] rfl rfl (by kernel_rfl) (by decide) (fun K hK => ?_)
  refine goes_ Try.func121 (by kernel_rfl) rfl #[.agg #[.bool (decide (q.num < 0)), .slice A2 (dg q.num.natAbs).length c2]] (by rfl) rfl rfl (by (try simp only [List.map_toArray, List.map_cons, List.map_nil]); first | done | rfl) ?_
  refine (hG.out W A2 c2 Q1.out.num).mono ?_
  rintro e W1 ⟨A6, c6, rfl, q1, q2, q3⟩
  refine ⟨_, rfl, ?_⟩
  replace HF := Lib.hid (HF.out.below q3)
  replace Q1 := Lib.hid (Q1.out.den.below q3)
  have Q2 := Lib.hid (In.dg q2 q1)
  clear q1 q2 q3
  refine hK.out _ _ ⟨HF.out.cellN 1 rfl 0 rfl, HF.out.cellN 1 rfl 1 rfl, HF.out.cellN 1 rfl 2 rfl⟩ (fun hHeld => ?_)
  clear hK K
  refine norm_ (a' := ?_) ?_ ?_
  rotate_left
  · show Act.put _ (some 7) _ = _
    simp only [Act.put, List.setIfInBounds_toArray, List.set_cons_zero, List.set_cons_succ]
    rfl
  refine pure_ (i := 5) (N := (some 10)) (v := ?_) (a' := ?_) #[true, true, true, true, true, true, false] rfl rfl (by kernel_rfl) (fun _ _ _ h => h) (Or.inl ⟨by rfl, ?_⟩) ?_ ?_
  rotate_left
  · intro w'
    go_simp
    with_reducible rfl
  rotate_left
  · simp only [Act.put, List.setIfInBounds_toArray, List.set_cons_zero, List.set_cons_succ]
    rfl
  refine one_ (i := 6) (N := none) #[true, true, true, true, true, true, true] rfl rfl (by kernel_rfl) (by decide) (fun K hK => ?_)
  have hf0 := HF.out.frozenN 0 rfl 0
  have hf1 := HF.out.frozenN 0 rfl 1
  have hf2 := HF.out.frozenN 0 rfl 2
  have hd0 := HF.out.cellN 0 rfl 0 rfl
  have hd1 := HF.out.cellN 0 rfl 1 rfl
  have hd2 := HF.out.cellN 0 rfl 2 rfl
  refine skip_ (w1 := ?_) (by rfl) rfl ?_ ?_
  rotate_left
  · go_simp
    rfl
  have HE := Lib.hid (end_rat (q := r) (B := B2) (d := d2) HF.out (by simp) (by simp) (by omega) Q2.out (by rw [HD.out]; exact Q1.out) rfl)
  rw [HD.out] at HE
  replace HF := Lib.hid (HF.out.put3 0 rfl (by omega) (by simp) (.bool (decide (r.num < 0))) (.slice A6 (dg r.num.natAbs).length c6) (.slice B2 (dg q.den).length d2))
  refine hK.out _ _ ⟨HF.out.cellN 1 rfl 0 rfl, HF.out.cellN 1 rfl 1 rfl, HF.out.cellN 1 rfl 2 rfl⟩ (fun hHeld => ?_)
  clear hK K
  refine done_ (by kernel_rfl) ?_
  generalize decide (r.num < 0) = b at HE ⊢
  go_wp2
  obtain ⟨f1, f2⟩ := HE.out
  exact post_own f2 rfl rfl rfl Try.underlying31 rfl (by kernel_rfl) f1

/-- lengths of products and sums -/
theorem mulQ_len {p q : Rat} {n : Nat} (h1 : (dg p.num.natAbs).length ≤ n) (h2 : (dg p.den).length ≤ n) (h3 : (dg q.num.natAbs).length ≤ n) (h4 : (dg q.den).length ≤ n) :
    (dg (p.num * q.num).natAbs).length ≤ n + n ∧ (dg (p.den * q.den)).length ≤ n + n ∧ (dg (p.num * q.den).natAbs).length ≤ n + n ∧ (dg (q.num * p.den).natAbs).length ≤ n + n ∧ (dg (p.num * q.den + q.num * p.den).natAbs).length ≤ n + n + 1 := by
  have a1 := Int.lt_of_lt_of_le (dg_lt p.num.natAbs) (Bp_le h1)
  have a2 := Int.lt_of_lt_of_le (dg_lt p.den) (Bp_le h2)
  have a3 := Int.lt_of_lt_of_le (dg_lt q.num.natAbs) (Bp_le h3)
  have a4 := Int.lt_of_lt_of_le (dg_lt q.den) (Bp_le h4)
  have b1 := abs_mul_lt (m := p.num) (n := q.num) a1 a3
  have b2 := abs_mul_lt (m := (p.den : Int)) (n := (q.den : Int)) (i := n) (j := n) (by simpa using a2) (by simpa using a4)
  have b3 := abs_mul_lt (m := p.num) (n := (q.den : Int)) (i := n) (j := n) a1 (by simpa using a4)
  have b4 := abs_mul_lt (m := q.num) (n := (p.den : Int)) (i := n) (j := n) a3 (by simpa using a2)
  refine ⟨dg_length_le b1, dg_length_le ?_, dg_length_le b3, dg_length_le b4, dg_length_le ?_⟩
  · have e : ((p.den : Int) * (q.den : Int)).natAbs = p.den * q.den := by rw [← Int.natCast_mul]; rfl
    rw [e] at b2; exact b2
  · have := Bp_succ (n + n)
    have := Bp_pos (n + n)
    omega
theorem rat_mul (p q : Rat) : p * q = mkRat (p.num * q.num) (p.den * q.den) := by rw [Rat.mul_def, Rat.normalize_eq_mkRat]
theorem rat_add (p q : Rat) : p + q = mkRat (p.num * q.den + q.num * p.den) (p.den * q.den) := by rw [Rat.add_def, Rat.normalize_eq_mkRat]
theorem rv_of (n : Int) (d : Nat) : rv (decide (n < 0)) (dg n.natAbs) (dg d) = mkRat n d := by unfold rv; rw [iv_can, V_dg, Int.toNat_natCast]

set_option maxHeartbeats 1000000 in
set_option maxRecDepth 100000 in
theorem ratio_Mul (s : Bool) (A : Option Addr) (c : Nat) (xs : List Int) (B : Option Addr) (d : Nat) (ys : List Int) (t : Bool) (E : Option Addr) (j : Nat) (us : List Int) (G : Option Addr) (l : Nat) (vs : List Int) (w : World) (h1 : In w A c xs) (m1 : xs.length ≤ 137438953472) (h2 : In w B d ys) (m2 : ys.length ≤ 137438953472) (h3 : In w E j us) (m3 : us.length ≤ 137438953472) (h4 : In w G l vs) (m4 : vs.length ≤ 137438953472) :
    Calls Try.prog 61 #[.agg #[.bool s, .slice A xs.length c, .slice B ys.length d], .agg #[.bool t, .slice E us.length j, .slice G vs.length l]] w fun e w' => ToldQ w (rv s xs ys * rv t us vs) e w' := by
  have hN1 := Lib.hid (fun (W : World) (hb : Below w.heap.size w W) => ratio_Norm s A c xs B d ys W (h1.below hb) (by omega) (h2.below hb) (by omega))
  have hN2 := Lib.hid (fun (W : World) (hb : Below w.heap.size w W) => ratio_Norm t E j us G l vs W (h3.below hb) (by omega) (h4.below hb) (by omega))
  have hl1 := rv_len s h1.lim h2.lim
  have hl2 := rv_len t h3.lim h4.lim
  generalize rv s xs ys = p at *
  generalize rv t us vs = q at *
  have hml := mulQ_len (p := p) (q := q) (n := 137438953473) (by omega) (by omega) (by omega) (by omega)
  have hM := Lib.hid (fun (W : World) (A1 : Option Addr) (c1 : Nat) (B1 : Option Addr) (d1 : Nat) (A2 : Option Addr) (c2 : Nat) (B2 : Option Addr) (d2 : Nat) (k1 : InQ W A1 c1 B1 d1 p) (k2 : InQ W A2 c2 B2 d2 q) => whole_Mul (decide (p.num < 0)) A1 c1 _ (decide (q.num < 0)) A2 c2 _ W k1.num (by omega) k2.num (by omega))
  have hD := Lib.hid (fun (W : World) (A1 : Option Addr) (c1 : Nat) (B1 : Option Addr) (d1 : Nat) (A2 : Option Addr) (c2 : Nat) (B2 : Option Addr) (d2 : Nat) (k1 : InQ W A1 c1 B1 d1 p) (k2 : InQ W A2 c2 B2 d2 q) => nat_Mul B1 d1 _ B2 d2 _ W k1.den.row k1.den.lim k1.den.cap (by omega) k2.den.row k2.den.lim k2.den.cap (by omega))
  have hG := Lib.hid (fun (W : World) (A1 : Option Addr) (c1 : Nat) (B1 : Option Addr) (d1 : Nat) (k1 : In W A1 c1 (dg (p.num * q.num).natAbs)) (k2 : In W B1 d1 (dg (p.den * q.den))) => ratio_made (decide (p.num * q.num < 0)) A1 c1 _ B1 d1 _ W k1 (by omega) k2 (by omega) (by rw [V_dg]; have := Nat.mul_pos p.den_pos q.den_pos; omega))
  unfold Told at hD
  rw [rv_of, ← rat_mul] at hG
  simp only [iv_can] at hM
  simp only [V_dg, ← Int.natCast_mul, Int.toNat_natCast] at hD
  generalize p * q = r at hG ⊢
  clear h1 h2 h3 h4 hl1 hl2 hml
  have HF := Lib.hid ((((Fr.refl w).box [.bool s, .slice A xs.length c, .slice B ys.length d] 31).box [.bool t, .slice E us.length j, .slice G vs.length l] 31).box [.bool false, .slice none 0 0, .slice none 0 0] 31)
  have hsz : (w.alloc (.cells #[.bool s, .slice A xs.length c, .slice B ys.length d] 31)).heap.size = w.heap.size + 1 := by simp
  have hsz2 : ((w.alloc (.cells #[.bool s, .slice A xs.length c, .slice B ys.length d] 31)).alloc (.cells #[.bool t, .slice E us.length j, .slice G vs.length l] 31)).heap.size = w.heap.size + 2 := by simp
  rw [show [Value.bool s, Value.slice A xs.length c, Value.slice B ys.length d].toArray = #[Value.bool s, Value.slice A xs.length c, Value.slice B ys.length d] from rfl, hsz, show [Value.bool t, Value.slice E us.length j, Value.slice G vs.length l].toArray = #[Value.bool t, Value.slice E us.length j, Value.slice G vs.length l] from rfl, hsz2] at HF
  clear hsz hsz2
  go_enter Try.func61, Try.ntmps61
  go_wp2_with fail
  generalize ((w.alloc (Obj.cells #[Value.bool s, .slice A xs.length c, .slice B ys.length d] 31)).alloc (Obj.cells #[Value.bool t, .slice E us.length j, .slice G vs.length l] 31)).alloc (Obj.cells #[Value.bool false, .slice none 0 0, .slice none 0 0] 31) = W at *
  have HF_ := Lib.hid HF.out.drew
  clear HF
  have HF := HF_
  clear HF_
  refine start_ (n := 6) (S := fun w' => w'.cell? ⟨w.heap.size, 0, none⟩ = some (.bool s) ∧ w'.cell? ⟨w.heap.size, 1, none⟩ = some (.slice A xs.length c) ∧ w'.cell? ⟨w.heap.size, 2, none⟩ = some (.slice B ys.length d) ∧ w'.cell? ⟨w.heap.size + 1, 0, none⟩ = some (.bool t) ∧ w'.cell? ⟨w.heap.size + 1, 1, none⟩ = some (.slice E us.length j) ∧ w'.cell? ⟨w.heap.size + 1, 2, none⟩ = some (.slice G vs.length l)) (ds := [4, 5]) #[false, false, false, false, false, false] (by kernel_rfl) rfl rfl ⟨HF.out.cellN 2 rfl 0 rfl, HF.out.cellN 2 rfl 1 rfl, HF.out.cellN 2 rfl 2 rfl, HF.out.cellN 1 rfl 0 rfl, HF.out.cellN 1 rfl 1 rfl, HF.out.cellN 1 rfl 2 rfl⟩ (fun hHeld => ?_)
  generalize World.drew _ = W at *
  refine take_ (i := 0) (N := (some 5)) (v := ?_) (a' := ?_) #[true, false, false, false, false, false] rfl rfl (by kernel_rfl) (fun _ _ _ h => h) (Or.inl ⟨by rfl, ?_⟩) hHeld ?_ ?_
  rotate_left
  · rintro w' ⟨s0, s1, s2, s3, s4, s5⟩
    go_simp
    with_reducible rfl
  rotate_left
  · simp only [Act.put, List.setIfInBounds_toArray, List.set_cons_zero, List.set_cons_succ]
    rfl
  refine take_ (i := 2) (N := (some 7)) (v := ?_) (a' := ?_) #[true, false, true, false, false, false] rfl rfl (by kernel_rfl) (fun _ _ _ h => h) (Or.inl ⟨by rfl, ?_⟩) hHeld ?_ ?_
  rotate_left
  · rintro w' ⟨s0, s1, s2, s3, s4, s5⟩
    go_simp
    with_reducible rfl
  rotate_left
  · simp only [Act.put, List.setIfInBounds_toArray, List.set_cons_zero, List.set_cons_succ]
    rfl
  refine one_ (i := 1) (N := (some 6)) #[true, true, true, false, false, false] rfl rfl (by kernel_rfl) (by decide) (fun K hK => ?_)
  refine goes_ Try.func62 (by kernel_rfl) rfl #[.agg #[.bool s, .slice A xs.length c, .slice B ys.length d]] (by rfl) rfl rfl (by (try simp only [List.map_toArray, List.map_cons, List.map_nil]); first | done | rfl) ?_
  refine (hN1.out W HF.out.bel).mono ?_
  rintro e W1 ⟨A1, c1, B1, d1, rfl, q1, q2, q3⟩
  refine ⟨_, rfl, ?_⟩
  replace HF := Lib.hid (HF.out.below q3)
  have Q1 := Lib.hid (InQ.mk q1 q2)
  clear q1 q2 q3
  refine hK.out _ _ ⟨HF.out.cellN 2 rfl 0 rfl, HF.out.cellN 2 rfl 1 rfl, HF.out.cellN 2 rfl 2 rfl, HF.out.cellN 1 rfl 0 rfl, HF.out.cellN 1 rfl 1 rfl, HF.out.cellN 1 rfl 2 rfl⟩ (fun hHeld => ?_)
  clear hK K
  refine norm_ (a' := ?_) ?_ ?_
  rotate_left
  · show Act.put _ (some 6) _ = _
    simp only [Act.put, List.setIfInBounds_toArray, List.set_cons_zero, List.set_cons_succ]
    rfl
  refine one_ (i := 3) (N := (some 8)) #[true, true, true, true, false, false] rfl rfl (by kernel_rfl) (by decide) (fun K hK => ?_)
  refine goes_ Try.func62 (by kernel_rfl) rfl #[.agg #[.bool t, .slice E us.length j, .slice G vs.length l]] (by rfl) rfl rfl (by (try simp only [List.map_toArray, List.map_cons, List.map_nil]); first | done | rfl) ?_
  refine (hN2.out W1 HF.out.bel).mono ?_
  rintro e W2 ⟨A2, c2, B2, d2, rfl, q1, q2, q3⟩
  refine ⟨_, rfl, ?_⟩
  replace HF := Lib.hid (HF.out.below q3)
  replace Q1 := Lib.hid (Q1.out.below q3)
  have Q2 := Lib.hid (InQ.mk q1 q2)
  clear q1 q2 q3
  refine hK.out _ _ ⟨HF.out.cellN 2 rfl 0 rfl, HF.out.cellN 2 rfl 1 rfl, HF.out.cellN 2 rfl 2 rfl, HF.out.cellN 1 rfl 0 rfl, HF.out.cellN 1 rfl 1 rfl, HF.out.cellN 1 rfl 2 rfl⟩ (fun hHeld => ?_)
  clear hK K
  refine norm_ (a' := ?_) ?_ ?_
  rotate_left
  · show Act.put _ (some 8) _ = _
    simp only [Act.put, List.setIfInBounds_toArray, List.set_cons_zero, List.set_cons_succ]
    rfl
  refine last_ (i := 4) (N := none) #[true, true, true, true, true, false] rfl rfl (by kernel_rfl) (by decide) (fun K hK => ?_)
  have hf0 := HF.out.frozenN 2 rfl 0
  have hf1 := HF.out.frozenN 2 rfl 1
  have hf2 := HF.out.frozenN 2 rfl 2
  have hd0 := HF.out.cellN 2 rfl 0 rfl
  have hd1 := HF.out.cellN 2 rfl 1 rfl
  have hd2 := HF.out.cellN 2 rfl 2 rfl
  have ef0 := HF.out.frozenN 1 rfl 0
  have ef1 := HF.out.frozenN 1 rfl 1
  have ef2 := HF.out.frozenN 1 rfl 2
  have ed0 := HF.out.cellN 1 rfl 0 rfl
  have ed1 := HF.out.cellN 1 rfl 1 rfl
  have ed2 := HF.out.cellN 1 rfl 2 rfl
  refine skip_ (w1 := ?_) (by rfl) rfl ?_ ?_
  rotate_left
  · go_simp
    rfl
  replace Q1 := Lib.hid (Q1.out.put3 (HF.out.ownN 2 rfl) (by simp) (a := .bool (decide (p.num < 0))) (by simp) (b := .slice A1 (dg p.num.natAbs).length c1) (by simp) (.slice B1 (dg p.den).length d1))
  replace Q2 := Lib.hid (Q2.out.put3 (HF.out.ownN 2 rfl) (by simp) (a := .bool (decide (p.num < 0))) (by simp) (b := .slice A1 (dg p.num.natAbs).length c1) (by simp) (.slice B1 (dg p.den).length d1))
  replace HF := Lib.hid (HF.out.put3 2 rfl (by omega) (by simp) (.bool (decide (p.num < 0))) (.slice A1 (dg p.num.natAbs).length c1) (.slice B1 (dg p.den).length d1))
  refine hK.out _ _ ?_
  clear hK K
  refine last_ (i := 5) (N := none) #[true, true, true, true, true, true] rfl rfl (by kernel_rfl) (by decide) (fun K hK => ?_)
  refine skip_ (w1 := ?_) (by rfl) rfl ?_ ?_
  rotate_left
  · go_simp
    rfl
  clear hf0 hf1 hf2 hd0 hd1 hd2 ef0 ef1 ef2 ed0 ed1 ed2
  replace Q1 := Lib.hid (Q1.out.put3 (HF.out.ownN 1 rfl) (by simp) (a := .bool (decide (q.num < 0))) (by simp) (b := .slice A2 (dg q.num.natAbs).length c2) (by simp) (.slice B2 (dg q.den).length d2))
  replace Q2 := Lib.hid (Q2.out.put3 (HF.out.ownN 1 rfl) (by simp) (a := .bool (decide (q.num < 0))) (by simp) (b := .slice A2 (dg q.num.natAbs).length c2) (by simp) (.slice B2 (dg q.den).length d2))
  replace HF := Lib.hid (HF.out.put3 1 rfl (by omega) (by simp) (.bool (decide (q.num < 0))) (.slice A2 (dg q.num.natAbs).length c2) (.slice B2 (dg q.den).length d2))
  refine hK.out _ _ ?_
  clear hK K
  refine done_ (by kernel_rfl) ?_
  go_wp2_with fail
  generalize World.setCell _ _ _ = W at HF Q1 Q2 ⊢
  replace Q1 := Lib.hid (Q1.out.below (Below.drew (Below.refl _ _)))
  replace Q2 := Lib.hid (Q2.out.below (Below.drew (Below.refl _ _)))
  have HF_ := Lib.hid HF.out.drew
  clear HF
  have HF := HF_
  clear HF_
  refine start_ (n := 12) (S := fun w' => w'.cell? ⟨w.heap.size, 0, none⟩ = some (.bool (decide (p.num < 0))) ∧ w'.cell? ⟨w.heap.size, 1, none⟩ = some (.slice A1 (dg p.num.natAbs).length c1) ∧ w'.cell? ⟨w.heap.size, 2, none⟩ = some (.slice B1 (dg p.den).length d1) ∧ w'.cell? ⟨w.heap.size + 1, 0, none⟩ = some (.bool (decide (q.num < 0))) ∧ w'.cell? ⟨w.heap.size + 1, 1, none⟩ = some (.slice A2 (dg q.num.natAbs).length c2) ∧ w'.cell? ⟨w.heap.size + 1, 2, none⟩ = some (.slice B2 (dg q.den).length d2)) (ds := []) #[false, false, false, false, false, false, false, false, false, false, false, false] (by kernel_rfl) rfl rfl ⟨HF.out.cellN 2 rfl 0 rfl, HF.out.cellN 2 rfl 1 rfl, HF.out.cellN 2 rfl 2 rfl, HF.out.cellN 1 rfl 0 rfl, HF.out.cellN 1 rfl 1 rfl, HF.out.cellN 1 rfl 2 rfl⟩ (fun hHeld => ?_)
  generalize World.drew _ = W at *
  refine pure_ (i := 0) (N := (some 9)) (v := ?_) (a' := ?_) #[true, false, false, false, false, false, false, false, false, false, false, false] rfl rfl (by kernel_rfl) (fun _ _ _ h => h) (Or.inl ⟨by rfl, ?_⟩) ?_ ?_
  rotate_left
  · intro w'
    go_simp
    with_reducible rfl
  rotate_left
  · simp only [Act.put, List.setIfInBounds_toArray, List.set_cons_zero, List.set_cons_succ]
    rfl
  refine pure_ (i := 2) (N := (some 11)) (v := ?_) (a' := ?_) #[true, false, true, false, false, false, false, false, false, false, false, false] rfl rfl (by kernel_rfl) (fun _ _ _ h => h) (Or.inl ⟨by rfl, ?_⟩) ?_ ?_
  rotate_left
  · intro w'
    go_simp
    with_reducible rfl
  rotate_left
  · simp only [Act.put, List.setIfInBounds_toArray, List.set_cons_zero, List.set_cons_succ]
    rfl
  refine pure_ (i := 5) (N := (some 14)) (v := ?_) (a' := ?_) #[true, false, true, false, false, true, false, false, false, false, false, false] rfl rfl (by kernel_rfl) (fun _ _ _ h => h) (Or.inl ⟨by rfl, ?_⟩) ?_ ?_
  rotate_left
  · intro w'
    go_simp
    with_reducible rfl
  rotate_left
  · simp only [Act.put, List.setIfInBounds_toArray, List.set_cons_zero, List.set_cons_succ]
    rfl
  refine pure_ (i := 7) (N := (some 16)) (v := ?_) (a' := ?_) #[true, false, true, false, false, true, false, true, false, false, false, false] rfl rfl (by kernel_rfl) (fun _ _ _ h => h) (Or.inl ⟨by rfl, ?_⟩) ?_ ?_
  rotate_left
  · intro w'
    go_simp
    with_reducible rfl
  rotate_left
  · simp only [Act.put, List.setIfInBounds_toArray, List.set_cons_zero, List.set_cons_succ]
    rfl
  refine take_ (i := 1) (N := (some 10)) (v := ?_) (a' := ?_) #[true, true, true, false, false, true, false, true, false, false, false, false] rfl rfl (by kernel_rfl) (fun _ _ _ h => h) (Or.inl ⟨by rfl, ?_⟩) hHeld ?_ ?_
  rotate_left
  · rintro w' ⟨s0, s1, s2, s3, s4, s5⟩
    go_simp
    with_reducible rfl
  rotate_left
  · simp only [Act.put, List.setIfInBounds_toArray, List.set_cons_zero, List.set_cons_succ]
    rfl
  refine take_ (i := 3) (N := (some 12)) (v := ?_) (a' := ?_) #[true, true, true, true, false, true, false, true, false, false, false, false] rfl rfl (by kernel_rfl) (fun _ _ _ h => h) (Or.inl ⟨by rfl, ?_⟩) hHeld ?_ ?_
  rotate_left
  · rintro w' ⟨s0, s1, s2, s3, s4, s5⟩
    go_simp
    with_reducible rfl
  rotate_left
  · simp only [Act.put, List.setIfInBounds_toArray, List.set_cons_zero, List.set_cons_succ]
    rfl
  refine take_ (i := 6) (N := (some 15)) (v := ?_) (a' := ?_) #[true, true, true, true, false, true, true, true, false, false, false, false] rfl rfl (by kernel_rfl) (fun _ _ _ h => h) (Or.inl ⟨by rfl, ?_⟩) hHeld ?_ ?_
  rotate_left
  · rintro w' ⟨s0, s1, s2, s3, s4, s5⟩
    go_simp
    with_reducible rfl
  rotate_left
  · simp only [Act.put, List.setIfInBounds_toArray, List.set_cons_zero, List.set_cons_succ]
    rfl
  refine take_ (i := 8) (N := (some 17)) (v := ?_) (a' := ?_) #[true, true, true, true, false, true, true, true, true, false, false, false] rfl rfl (by kernel_rfl) (fun _ _ _ h => h) (Or.inl ⟨by rfl, ?_⟩) hHeld ?_ ?_
  rotate_left
  · rintro w' ⟨s0, s1, s2, s3, s4, s5⟩
    go_simp
    with_reducible rfl
  rotate_left
  · simp only [Act.put, List.setIfInBounds_toArray, List.set_cons_zero, List.set_cons_succ]
    rfl
  refine one_ (i := 4) (N := (some 13)) #[true, true, true, true, true, true, true, true, true, false, false, false] rfl rfl (by kernel_rfl) (by decide) (fun K hK => ?_)
  refine goes_ Try.func98 (by kernel_rfl) rfl #[.agg #[.bool (decide (p.num < 0)), .slice A1 (dg p.num.natAbs).length c1], .agg #[.bool (decide (q.num < 0)), .slice A2 (dg q.num.natAbs).length c2]] (by rfl) rfl rfl (by (try simp only [List.map_toArray, List.map_cons, List.map_nil]); first | done | rfl) ?_
  refine (hM.out W A1 c1 B1 d1 A2 c2 B2 d2 Q1.out Q2.out).mono ?_
  rintro e W1 ⟨A3, c3, rfl, q1, q2, q3⟩
  refine ⟨_, rfl, ?_⟩
  replace HF := Lib.hid (HF.out.below q3)
  replace Q1 := Lib.hid (Q1.out.below q3)
  replace Q2 := Lib.hid (Q2.out.below q3)
  have Q3 := Lib.hid (In.dg q2 q1)
  clear q1 q2 q3
  refine hK.out _ _ ⟨HF.out.cellN 2 rfl 0 rfl, HF.out.cellN 2 rfl 1 rfl, HF.out.cellN 2 rfl 2 rfl, HF.out.cellN 1 rfl 0 rfl, HF.out.cellN 1 rfl 1 rfl, HF.out.cellN 1 rfl 2 rfl⟩ (fun hHeld => ?_)
  clear hK K
  refine norm_ (a' := ?_) ?_ ?_
  rotate_left
  · show Act.put _ (some 13) _ = _
    simp only [Act.put, List.setIfInBounds_toArray, List.set_cons_zero, List.set_cons_succ]
    rfl
  refine one_ (i := 9) (N := (some 18)) #[true, true, true, true, true, true, true, true, true, true, false, false] rfl rfl (by kernel_rfl) (by decide) (fun K hK => ?_)
  refine goes_ Try.func84 (by kernel_rfl) rfl #[.slice B1 (dg p.den).length d1, .slice B2 (dg q.den).length d2] (by rfl) rfl rfl (by (try simp only [List.map_toArray, List.map_cons, List.map_nil]); first | done | rfl) ?_
  refine (hD.out W1 A1 c1 B1 d1 A2 c2 B2 d2 Q1.out Q2.out).mono ?_
  rintro e W2 ⟨A4, c4, rfl, q1, q2, q3⟩
  refine ⟨_, rfl, ?_⟩
  replace HF := Lib.hid (HF.out.below q3)
  replace Q3 := Lib.hid (Q3.out.below q3)
  have Q4 := Lib.hid (In.dg q2 q1)
  clear q1 q2 q3 Q1 Q2
  refine hK.out _ _ ⟨HF.out.cellN 2 rfl 0 rfl, HF.out.cellN 2 rfl 1 rfl, HF.out.cellN 2 rfl 2 rfl, HF.out.cellN 1 rfl 0 rfl, HF.out.cellN 1 rfl 1 rfl, HF.out.cellN 1 rfl 2 rfl⟩ (fun hHeld => ?_)
  clear hK K
  refine norm_ (a' := ?_) ?_ ?_
  rotate_left
  · show Act.put _ (some 18) _ = _
    simp only [Act.put, List.setIfInBounds_toArray, List.set_cons_zero, List.set_cons_succ]
    rfl
  refine one_ (i := 10) (N := (some 19)) #[true, true, true, true, true, true, true, true, true, true, true, false] rfl rfl (by kernel_rfl) (by decide) (fun K hK => ?_)
  refine goes_ Try.func99 (by kernel_rfl) rfl #[.agg #[.bool (decide (p.num * q.num < 0)), .slice A3 (dg (p.num * q.num).natAbs).length c3], .slice A4 (dg (p.den * q.den)).length c4] (by rfl) rfl rfl (by (try simp only [List.map_toArray, List.map_cons, List.map_nil]); first | done | rfl) ?_
  refine (hG.out W2 A3 c3 A4 c4 Q3.out Q4.out).mono ?_
  rintro e W3 ⟨A5, c5, A6, c6, rfl, q1, q2, q3⟩
  refine ⟨_, rfl, ?_⟩
  replace HF := Lib.hid (HF.out.below q3)
  replace Q3 := Lib.hid q1
  replace Q4 := Lib.hid q2
  clear q1 q2 q3
  refine hK.out _ _ ⟨HF.out.cellN 2 rfl 0 rfl, HF.out.cellN 2 rfl 1 rfl, HF.out.cellN 2 rfl 2 rfl, HF.out.cellN 1 rfl 0 rfl, HF.out.cellN 1 rfl 1 rfl, HF.out.cellN 1 rfl 2 rfl⟩ (fun hHeld => ?_)
  clear hK K
  refine norm_ (a' := ?_) ?_ ?_
  rotate_left
  · show Act.put _ (some 19) _ = _
    simp only [Act.put, List.setIfInBounds_toArray, List.set_cons_zero, List.set_cons_succ]
    rfl
  refine one_ (i := 11) (N := none) #[true, true, true, true, true, true, true, true, true, true, true, true] rfl rfl (by kernel_rfl) (by decide) (fun K hK => ?_)
  have hf0 := HF.out.frozenN 0 rfl 0
  have hf1 := HF.out.frozenN 0 rfl 1
  have hf2 := HF.out.frozenN 0 rfl 2
  have hd0 := HF.out.cellN 0 rfl 0 rfl
  have hd1 := HF.out.cellN 0 rfl 1 rfl
  have hd2 := HF.out.cellN 0 rfl 2 rfl
  refine skip_ (w1 := ?_) (by rfl) rfl ?_ ?_
  rotate_left
  · go_simp
    rfl
  have HE := Lib.hid (end_rat HF.out (by simp) (by simp) (by omega) Q3.out Q4.out rfl)
  replace HF := Lib.hid (HF.out.put3 0 rfl (by omega) (by simp) (.bool (decide (r.num < 0))) (.slice A5 (dg r.num.natAbs).length c5) (.slice A6 (dg r.den).length c6))
  refine hK.out _ _ ⟨HF.out.cellN 2 rfl 0 rfl, HF.out.cellN 2 rfl 1 rfl, HF.out.cellN 2 rfl 2 rfl, HF.out.cellN 1 rfl 0 rfl, HF.out.cellN 1 rfl 1 rfl, HF.out.cellN 1 rfl 2 rfl⟩ (fun hHeld => ?_)
  clear hK K
  refine done_ (by kernel_rfl) ?_
  generalize decide (r.num < 0) = b at HE ⊢
  go_wp2
  obtain ⟨f1, f2⟩ := HE.out
  exact post_own f2 rfl rfl rfl Try.underlying31 rfl (by kernel_rfl) f1
end Go.Proofs.Ytchdoignomidjaa.F

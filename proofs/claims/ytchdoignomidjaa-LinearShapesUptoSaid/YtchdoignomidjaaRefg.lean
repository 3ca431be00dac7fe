/- The walks of the reference's layer 2: made, Norm, Neg, Of, Mul, Add, Sign. -/
import Derived.Test.YtchdoignomidjaaReff
set_option linter.unusedVariables false
set_option linter.unusedSimpArgs false
namespace Go.Proofs.Ytchdoignomidjaa.F
open Go.RowKit Go.Shelf Go.Proofs.YtchdoignomidjaaW.PrintLast

set_option maxHeartbeats 1000000 in
set_option maxRecDepth 100000 in
theorem r2_made (s : Bool) (A : Option Addr) (c : Nat) (xs : List Int) (w : World) (h : In w A c xs) (hm : xs.length ≤ 2199023255552) (n : Int) (hn : n = iv s (V xs)) :
    Calls Try.prog 110 #[.bool s, .slice A xs.length c] w fun e w' => ToldI w n e w' := by
  have HF := Lib.hid ((Fr.refl w).box [.bool false, .slice none 0 0] 29)
  have hN := Lib.hid (r1_NormN A c xs _ (h.below HF.out.bel) hm)
  have hv := V_nonneg h.lim
  have habs : (V xs).toNat = n.natAbs := by rw [hn, iv_natAbs h.lim]
  have hb : decide (n < 0) = (s && decide (0 < (dg n.natAbs).length)) := by
    have h0 : 0 < (dg n.natAbs).length ↔ V xs ≠ 0 := by
      have h1 : (dg n.natAbs).length = 0 ↔ V xs = 0 := by rw [List.length_eq_zero_iff, dg_eq_nil]; omega
      omega
    rw [hn] at *
    cases s with
    | true =>
      simp only [iv, if_true, Bool.true_and] at *
      exact decide_eq_decide.2 (by omega)
    | false =>
      simp only [iv, Bool.false_eq_true, if_false, Bool.false_and] at *
      exact decide_eq_false (by omega)
  rw [habs] at hN
  clear h hn hv habs
  have HBB := Lib.hid hb
  clear hb
  go_enter Try.func110, Try.ntmps110
  go_wp2_with fail
  refine hN.out.mono ?_
  rintro e W1 ⟨A1, c1, rfl, q1, q2⟩
  replace HF := Lib.hid (HF.out.below q2)
  have Q1 := Lib.hid q1
  clear q1 q2 hN
  have hf0 := HF.out.frozenN 0 rfl 0
  have hf1 := HF.out.frozenN 0 rfl 1
  have hd0 := HF.out.cellN 0 rfl 0 rfl
  have hd1 := HF.out.cellN 0 rfl 1 rfl
  have HE := Lib.hid (end_int HF.out (by simp) (by simp) (by omega) Q1.out.cap Q1.out.row rfl)
  rw [HBB.out] at HE
  clear HBB
  cases s with
  | false =>
    rw [Bool.false_and] at HE
    go_wp2
    obtain ⟨f1, f2⟩ := HE.out
    exact post_own f2 rfl rfl rfl Try.underlying29 rfl (by kernel_rfl) f1
  | true =>
    rw [Bool.true_and] at HE
    by_cases hu : 0 < (dg n.natAbs).length
    · rw [decide_eq_true hu] at HE
      go_wp2
      obtain ⟨f1, f2⟩ := HE.out
      exact post_own f2 rfl rfl rfl Try.underlying29 rfl (by kernel_rfl) f1
    · rw [decide_eq_false hu] at HE
      go_wp2
      obtain ⟨f1, f2⟩ := HE.out
      exact post_own f2 rfl rfl rfl Try.underlying29 rfl (by kernel_rfl) f1

set_option maxHeartbeats 1000000 in
set_option maxRecDepth 100000 in
theorem r2_Norm (s : Bool) (A : Option Addr) (c : Nat) (xs : List Int) (w : World) (h : In w A c xs) (hm : xs.length ≤ 2199023255552) :
    Calls Try.prog 107 #[.agg #[.bool s, .slice A xs.length c]] w fun e w' => ToldI w (iv s (V xs)) e w' := by
  have hM := Lib.hid (fun (W : World) (hb : Below w.heap.size w W) => r2_made s A c xs W (h.below hb) hm _ rfl)
  clear h
  generalize iv s (V xs) = n at *
  have HF := Lib.hid (((Fr.refl w).box [.bool s, .slice A xs.length c] 29).box [.bool false, .slice none 0 0] 29)
  have hsz : (w.alloc (.cells #[.bool s, .slice A xs.length c] 29)).heap.size = w.heap.size + 1 := by simp
  rw [show [Value.bool s, Value.slice A xs.length c].toArray = #[Value.bool s, Value.slice A xs.length c] from rfl, hsz] at HF
  clear hsz
  go_enter Try.func107, Try.ntmps107
  go_wp2_with fail
  refine (hM.out _ HF.out.bel).mono ?_
  rintro e W1 ⟨A1, c1, rfl, q1, q2, q3⟩
  replace HF := Lib.hid (HF.out.below q3)
  have Q2 := Lib.hid q2
  clear q2 q3 hM
  have hf0 := HF.out.frozenN 0 rfl 0
  have hf1 := HF.out.frozenN 0 rfl 1
  have hd0 := HF.out.cellN 0 rfl 0 rfl
  have hd1 := HF.out.cellN 0 rfl 1 rfl
  have HE := Lib.hid (end_int HF.out (by simp) (by simp) (by omega) q1 Q2.out rfl)
  generalize decide (n < 0) = b at HE ⊢
  go_wp2
  obtain ⟨f1, f2⟩ := HE.out
  exact post_own f2 rfl rfl rfl Try.underlying29 rfl (by kernel_rfl) f1

set_option maxHeartbeats 1000000 in
set_option maxRecDepth 100000 in
theorem r2_Neg (s : Bool) (A : Option Addr) (c : Nat) (xs : List Int) (w : World) (h : In w A c xs) (hm : xs.length ≤ 2199023255552) :
    Calls Try.prog 129 #[.agg #[.bool s, .slice A xs.length c]] w fun e w' => ToldI w (- iv s (V xs)) e w' := by
  have hM := Lib.hid (fun (W : World) (hb : Below w.heap.size w W) => r2_made (!s) A c xs W (h.below hb) hm (- iv s (V xs)) (by cases s <;> simp [iv]))
  clear h
  generalize - iv s (V xs) = n at *
  have HF := Lib.hid (((Fr.refl w).box [.bool s, .slice A xs.length c] 29).box [.bool false, .slice none 0 0] 29)
  have hsz : (w.alloc (.cells #[.bool s, .slice A xs.length c] 29)).heap.size = w.heap.size + 1 := by simp
  rw [show [Value.bool s, Value.slice A xs.length c].toArray = #[Value.bool s, Value.slice A xs.length c] from rfl, hsz] at HF
  clear hsz
  go_enter Try.func129, Try.ntmps129
  go_wp2_with fail
  refine (hM.out _ HF.out.bel).mono ?_
  rintro e W1 ⟨A1, c1, rfl, q1, q2, q3⟩
  replace HF := Lib.hid (HF.out.below q3)
  have Q2 := Lib.hid q2
  clear q2 q3 hM
  have hf0 := HF.out.frozenN 0 rfl 0
  have hf1 := HF.out.frozenN 0 rfl 1
  have hd0 := HF.out.cellN 0 rfl 0 rfl
  have hd1 := HF.out.cellN 0 rfl 1 rfl
  have HE := Lib.hid (end_int HF.out (by simp) (by simp) (by omega) q1 Q2.out rfl)
  generalize decide (n < 0) = b at HE ⊢
  go_wp2
  obtain ⟨f1, f2⟩ := HE.out
  exact post_own f2 rfl rfl rfl Try.underlying29 rfl (by kernel_rfl) f1
end Go.Proofs.Ytchdoignomidjaa.F

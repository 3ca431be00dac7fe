/- The walks of the reference's layer 3, fourth part: Sign, Whole. -/
import Derived.Test.YtchdoignomidjaaRefl
set_option linter.unusedVariables false
set_option linter.unusedSimpArgs false
namespace Go.Proofs.Ytchdoignomidjaa.F
open Go.RowKit Go.Shelf Go.Proofs.YtchdoignomidjaaW.PrintLast

set_option maxHeartbeats 1000000 in
set_option maxRecDepth 100000 in
theorem r3_Sign (s : Bool) (A : Option Addr) (c : Nat) (xs : List Int) (B : Option Addr) (d : Nat) (ys : List Int) (w : World) (h : In w A c xs) (hm : xs.length ≤ 549755813888) (k : In w B d ys) (km : ys.length ≤ 549755813888) :
    Calls Try.prog 49 #[.agg #[.bool s, .slice A xs.length c, .slice B ys.length d]] w fun e w' => e = .returned (.int .i64 (sgn (rv s xs ys).num)) ∧ Below w.heap.size w w' := by
  have hN := Lib.hid (fun (W : World) (hb : Below w.heap.size w W) => r3_Norm s A c xs B d ys W (h.below hb) hm (k.below hb) km)
  have hl := (rv_len s h.lim k.lim).1
  generalize rv s xs ys = q at *
  have hS := Lib.hid (fun (W : World) (A' : Option Addr) (c' : Nat) (hr : In W A' c' (dg q.num.natAbs)) => r2_Sign (decide (q.num < 0)) A' c' _ W hr (by omega))
  rw [iv_can] at hS
  clear h k hl
  have HF := Lib.hid ((Fr.refl w).box [.bool s, .slice A xs.length c, .slice B ys.length d] 31)
  rw [show [Value.bool s, Value.slice A xs.length c, Value.slice B ys.length d].toArray = #[Value.bool s, Value.slice A xs.length c, Value.slice B ys.length d] from rfl] at HF
  go_enter Try.func49, Try.ntmps49
  go_wp2_with fail
  refine (hN.out _ HF.out.bel).mono ?_
  rintro e W1 ⟨A2, c2, B2, d2, rfl, q1, q2, q3⟩
  replace HF := Lib.hid (HF.out.below q3)
  have Q1 := Lib.hid q1
  clear q1 q2 q3
  have hnum := run_num
  go_wp2_with fail
  refine (hS.out W1 A2 c2 Q1.out).mono ?_
  rintro e W2 ⟨rfl, hb⟩
  replace HF := Lib.hid (HF.out.below hb)
  clear hb
  go_wp2
  go_ret
  exact ⟨rfl, HF.out.bel⟩

set_option maxHeartbeats 1000000 in
set_option maxRecDepth 100000 in
theorem r3_Whole (n : Int) (w : World) (h0 : -9223372036854775808 ≤ n) (h1 : n ≤ 9223372036854775807) :
    Calls Try.prog 31 #[.int .i64 n] w fun e w' => ToldQ w (n : Rat) e w' := by
  obtain ⟨q, hq0⟩ : ∃ q : Rat, q = (n : Rat) := ⟨_, rfl⟩
  rw [← hq0]
  have HQ0 := Lib.hid hq0
  clear hq0
  have hO := Lib.hid (fun (W : World) => r2_Of n W h0 h1)
  have HF := Lib.hid ((Fr.refl w).box [.bool false, .slice none 0 0, .slice none 0 0] 31)
  go_enter Try.func31, Try.ntmps31
  go_wp2_with fail
  refine (hO.out _).mono ?_
  rintro e W1 ⟨A1, c1, rfl, q1, q2, q3⟩
  replace HF := Lib.hid (HF.out.below q3)
  have Q1 := Lib.hid (In.dg q2 q1)
  clear q1 q2 q3
  have HG := Lib.hid (HF.out.box [.int .u32 1] 96)
  have hal := Lib.hid ((Below.refl _ W1).alloc (Nat.le_refl _) (.cells #[.int .u32 1] 96))
  have hlen : (dg n.natAbs).length ≤ 549755813888 := by
    have h2 : (dg n.natAbs).length ≤ 2 := dg_length_le (by show _ < (4294967296 : Int) ^ 2; omega)
    omega
  have hN := Lib.hid (r3_Norm (decide (n < 0)) A1 c1 (dg n.natAbs) (some ⟨W1.heap.size, 0, none⟩) 1 [1] (W1.alloc (.cells #[.int .u32 1] 96)) (Q1.out.below hal.out) hlen (In.one (HG.out.cellN 0 rfl 0 rfl) (by omega) (by omega)) (by simp))
  have hq : rv (decide (n < 0)) (dg n.natAbs) [1] = (n : Rat) := by
    unfold rv; rw [iv_can]; show mkRat n 1 = _; exact Rat.mkRat_one n
  rw [hq, ← HQ0.out] at hN
  replace HF := Lib.hid (HF.out.alloc (.cells #[.int .u32 1] 96))
  clear hq hlen hal HG
  go_wp2_with fail
  refine hN.out.mono ?_
  rintro e W2 ⟨A2, c2, B2, d2, rfl, q1, q2, q3⟩
  replace HF := Lib.hid (HF.out.below q3)
  replace Q1 := Lib.hid q1
  have Q2 := Lib.hid q2
  clear q1 q2 q3 hN
  have hf0 := HF.out.frozenN 0 rfl 0
  have hf1 := HF.out.frozenN 0 rfl 1
  have hf2 := HF.out.frozenN 0 rfl 2
  have hd0 := HF.out.cellN 0 rfl 0 rfl
  have hd1 := HF.out.cellN 0 rfl 1 rfl
  have hd2 := HF.out.cellN 0 rfl 2 rfl
  have HE := Lib.hid (end_rat HF.out (by simp) (by simp) (by omega) Q1.out Q2.out rfl)
  generalize decide (q.num < 0) = b at HE ⊢
  go_wp2
  obtain ⟨f1, f2⟩ := HE.out
  exact post_own f2 rfl rfl rfl Try.underlying31 rfl (by kernel_rfl) f1
end Go.Proofs.Ytchdoignomidjaa.F

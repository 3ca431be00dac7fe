/- The walks of package ratio, second part: Norm, Sign, Whole, Neg. -/
import Derived.Test.YtchdoignomidjaaRat
set_option linter.unusedVariables false
set_option linter.unusedSimpArgs false
namespace Go.Proofs.Ytchdoignomidjaa.F
open Go.RowKit Go.Shelf Go.Proofs.YtchdoignomidjaaW.PrintLast

theorem In.one {w : World} {g : Nat} {x : Int} (h : w.cell? ⟨g, 0, none⟩ = some (.int .u32 x)) (h0 : 0 ≤ x) (h1 : x < 4294967296) : In w (some ⟨g, 0, none⟩) 1 [x] := ⟨Rn.one h, Lim.cons h0 h1 Lim.nil, Nat.le_refl _⟩
theorem dg_one : dg 1 = [1] := by rw [dg_pos (by omega)]; simp [dg_zero]

set_option maxHeartbeats 1000000 in
set_option maxRecDepth 100000 in
theorem ratio_Norm (s : Bool) (A : Option Addr) (c : Nat) (xs : List Int) (B : Option Addr) (d : Nat) (ys : List Int) (w : World) (h : In w A c xs) (hm : xs.length ≤ 549755813888) (k : In w B d ys) (km : ys.length ≤ 549755813888) :
    Calls Try.prog 62 #[.agg #[.bool s, .slice A xs.length c, .slice B ys.length d]] w fun e w' => ToldQ w (rv s xs ys) e w' := by
  have hB := Lib.hid (fun (W : World) (hb : Below w.heap.size w W) => nat_Bits B d ys W (k.below hb).row k.lim k.cap km)
  have hM := Lib.hid (fun (W : World) (hb : Below w.heap.size w W) (hy : 0 < V ys) => ratio_made s A c xs B d ys W (h.below hb) hm (k.below hb) km hy)
  have hy := V_nonneg k.lim
  obtain ⟨q, hq⟩ : ∃ q, q = rv s xs ys := ⟨_, rfl⟩
  rw [← hq] at hM ⊢
  have hq0 := Lib.hid (show V ys = 0 → q = 0 from fun h0 => by rw [hq, rv, h0]; exact Rat.mkRat_zero _)
  clear hq h k
  generalize V ys = Y at *
  have HF := Lib.hid (((Fr.refl w).box [.bool s, .slice A xs.length c, .slice B ys.length d] 31).box [.bool false, .slice none 0 0, .slice none 0 0] 31)
  have hsz : (w.alloc (.cells #[.bool s, .slice A xs.length c, .slice B ys.length d] 31)).heap.size = w.heap.size + 1 := by simp
  rw [show [Value.bool s, Value.slice A xs.length c, Value.slice B ys.length d].toArray = #[Value.bool s, Value.slice A xs.length c, Value.slice B ys.length d] from rfl, hsz] at HF
  clear hsz
  go_enter Try.func62, Try.ntmps62
  go_wp2_with fail
  refine (hB.out _ HF.out.bel).mono ?_
  rintro e W1 ⟨bb, rfl, b0, b1, b2⟩
  replace HF := Lib.hid (HF.out.below b2)
  clear b2
  by_cases hbb : bb = 0
  · have hqz := hq0.out (b1.1 hbb)
    subst hqz
    subst hbb
    have HG := Lib.hid (HF.out.box [.int .u32 1] 96)
    have hf0 := HG.out.frozenN 1 rfl 0
    have hf1 := HG.out.frozenN 1 rfl 1
    have hf2 := HG.out.frozenN 1 rfl 2
    have hd0 := HG.out.cellN 1 rfl 0 rfl
    have hd1 := HG.out.cellN 1 rfl 1 rfl
    have hd2 := HG.out.cellN 1 rfl 2 rfl
    have e0 : dg (0 : Rat).num.natAbs = [] := dg_zero
    have e1 : dg (0 : Rat).den = [1] := dg_one
    have HE := Lib.hid (end_rat (q := 0) (A := none) (c := 0) (B := some ⟨W1.heap.size, 0, none⟩) (d := 1) (HF.out.alloc (.cells #[.int .u32 1] 96)) (by simp) (by simp) (by omega) (by rw [e0]; exact In.nil _ _ _) (by rw [e1]; exact In.one (HG.out.cellN 0 rfl 0 rfl) (by omega) (by omega)) rfl)
    rw [e0, e1, show decide ((0 : Rat).num < 0) = false from rfl] at HE
    clear e0 e1 hB hM b1 hq0
    go_wp2
    obtain ⟨f1, f2⟩ := HE.out
    exact post_own f2 rfl rfl rfl Try.underlying31 rfl (by kernel_rfl) f1
  · have hY : 0 < Y := by
      rcases Int.lt_or_eq_of_le hy with h1 | h1
      · exact h1
      · exact absurd (b1.2 h1.symm) hbb
    have hbe : (bb == 0) = false := by simpa using hbb
    clear b1 hbb hq0
    have hc0 := HF.out.cellN 1 rfl 0 rfl
    have hc1 := HF.out.cellN 1 rfl 1 rfl
    have hc2 := HF.out.cellN 1 rfl 2 rfl
    go_wp2_with fail
    refine (hM.out W1 HF.out.bel hY).mono ?_
    rintro e W2 ⟨A2, c2, B2, d2, rfl, q1, q2, q3⟩
    replace HF := Lib.hid (HF.out.below q3)
    have Q1 := Lib.hid q1
    have Q2 := Lib.hid q2
    clear q1 q2 q3 hc0 hc1 hc2
    have hf0 := HF.out.frozenN 0 rfl 0
    have hf1 := HF.out.frozenN 0 rfl 1
    have hf2 := HF.out.frozenN 0 rfl 2
    have hd0 := HF.out.cellN 0 rfl 0 rfl
    have hd1 := HF.out.cellN 0 rfl 1 rfl
    have hd2 := HF.out.cellN 0 rfl 2 rfl
    have HE := Lib.hid (end_rat HF.out (by simp) (by simp) (by omega) Q1.out Q2.out rfl)
    generalize decide (q.num < 0) = b at HE ⊢
    go_wp2
    obtain ⟨f1, f2⟩ := HE.out
    exact post_own f2 rfl rfl rfl Try.underlying31 rfl (by kernel_rfl) f1

/-- lengths of the canonical form -/
theorem rv_len (s : Bool) {xs ys : List Int} (h : Lim xs) (k : Lim ys) : (dg (rv s xs ys).num.natAbs).length ≤ xs.length ∧ (dg (rv s xs ys).den).length ≤ ys.length + 1 := by
  have hx := V_nonneg h
  have hy := V_nonneg k
  by_cases h0 : V ys = 0
  · have : rv s xs ys = 0 := by rw [rv, h0]; exact Rat.mkRat_zero _
    rw [this]
    refine ⟨?_, ?_⟩
    · show (dg 0).length ≤ _; rw [dg_zero]; exact Nat.zero_le _
    · show (dg 1).length ≤ _; rw [dg_one]; simp
  · have hnd := made_q (s := s) (x := (V xs).toNat) (y := (V ys).toNat) (by omega) rfl
    have hqe : mkRat (iv s ((V xs).toNat : Int)) (V ys).toNat = rv s xs ys := by unfold rv; congr 2; omega
    rw [hqe] at hnd
    have lx := dg_len_of_V h
    have ly := dg_len_of_V k
    constructor
    · rw [hnd.1]
      have e : ∀ m : Nat, (iv s (m : Int)).natAbs = m := fun m => by unfold iv; split <;> omega
      rw [e]
      exact Nat.le_trans (dg_length_mono (Nat.div_le_self _ _)) lx
    · rw [hnd.2]
      exact Nat.le_trans (dg_length_mono (Nat.div_le_self _ _)) (by omega)

theorem run_num (a b c : Value) (w : World) : (Instr.field 31 (.agg #[a, b, c]) 0).run Try.prog w = .ok (.agg #[a, b]) w := by
  have hu := Try.underlying31
  have hu2 := Try.underlying29
  have hi : (Try.prog.info? 29).map (·.size) = some 2 := by kernel_rfl
  obtain ⟨i, h1, h2⟩ := Option.map_eq_some_iff.1 hi
  simp [Instr.field, underlying, part, isAgg, sizeOf, asAgg, Sem.run_bind, Result.andThen, hu, hu2, go_sem]
  rfl

set_option maxHeartbeats 1000000 in
set_option maxRecDepth 100000 in
theorem ratio_Sign (s : Bool) (A : Option Addr) (c : Nat) (xs : List Int) (B : Option Addr) (d : Nat) (ys : List Int) (w : World) (h : In w A c xs) (hm : xs.length ≤ 549755813888) (k : In w B d ys) (km : ys.length ≤ 549755813888) :
    Calls Try.prog 70 #[.agg #[.bool s, .slice A xs.length c, .slice B ys.length d]] w fun e w' => e = .returned (.int .i64 (sgn (rv s xs ys).num)) ∧ Below w.heap.size w w' := by
  have hN := Lib.hid (fun (W : World) (hb : Below w.heap.size w W) => ratio_Norm s A c xs B d ys W (h.below hb) hm (k.below hb) km)
  have hl := (rv_len s h.lim k.lim).1
  generalize rv s xs ys = q at *
  have hS := Lib.hid (fun (W : World) (A' : Option Addr) (c' : Nat) (hr : In W A' c' (dg q.num.natAbs)) => whole_Sign (decide (q.num < 0)) A' c' _ W hr.row hr.lim hr.cap (by omega))
  rw [iv_can] at hS
  clear h k hl
  have HF := Lib.hid ((Fr.refl w).box [.bool s, .slice A xs.length c, .slice B ys.length d] 31)
  rw [show [Value.bool s, Value.slice A xs.length c, Value.slice B ys.length d].toArray = #[Value.bool s, Value.slice A xs.length c, Value.slice B ys.length d] from rfl] at HF
  go_enter Try.func70, Try.ntmps70
  go_wp2_with fail
  refine (hN.out _ HF.out.bel).mono ?_
  rintro e W1 ⟨A2, c2, B2, d2, rfl, q1, q2, q3⟩
  replace HF := Lib.hid (HF.out.below q3)
  have Q1 := Lib.hid q1
  clear q1 q2 q3
  have hnum := run_num
  go_wp2_with fail
  refine (hS.out W1 A2 c2 Q1.out).mono ?_
  rintro e W2 ⟨rfl, hb⟩
  replace HF := Lib.hid (HF.out.below hb)
  clear hb
  go_wp2
  go_ret
  exact ⟨rfl, HF.out.bel⟩

set_option maxHeartbeats 1000000 in
set_option maxRecDepth 100000 in
theorem ratio_Whole (n : Int) (w : World) (h0 : -9223372036854775808 ≤ n) (h1 : n ≤ 9223372036854775807) :
    Calls Try.prog 72 #[.int .i64 n] w fun e w' => ToldQ w (n : Rat) e w' := by
  have hO := Lib.hid (fun (W : World) => whole_Of n W h0 h1)
  have HF := Lib.hid ((Fr.refl w).box [.bool false, .slice none 0 0, .slice none 0 0] 31)
  go_enter Try.func72, Try.ntmps72
  go_wp2_with fail
  refine (hO.out _).mono ?_
  rintro e W1 ⟨A1, c1, rfl, q1, q2, q3⟩
  replace HF := Lib.hid (HF.out.below q3)
  have Q1 := Lib.hid (In.dg q2 q1)
  clear q1 q2 q3
  have HG := Lib.hid (HF.out.box [.int .u32 1] 96)
  have hf0 := HG.out.frozenN 1 rfl 0
  have hf1 := HG.out.frozenN 1 rfl 1
  have hf2 := HG.out.frozenN 1 rfl 2
  have hd0 := HG.out.cellN 1 rfl 0 rfl
  have hd1 := HG.out.cellN 1 rfl 1 rfl
  have hd2 := HG.out.cellN 1 rfl 2 rfl
  have e1 : dg (n : Rat).den = [1] := dg_one
  have HE := Lib.hid (end_rat (q := (n : Rat)) (A := A1) (c := c1) (B := some ⟨W1.heap.size, 0, none⟩) (d := 1) (HF.out.alloc (.cells #[.int .u32 1] 96)) (by simp) (by simp) (by omega) (Q1.out.below ((Below.refl _ W1).alloc (Nat.le_refl _) _)) (by rw [e1]; exact In.one (HG.out.cellN 0 rfl 0 rfl) (by omega) (by omega)) rfl)
  rw [e1, Rat.num_intCast] at HE
  generalize decide (n < 0) = b at HE ⊢
  clear e1
  go_wp2
  obtain ⟨f1, f2⟩ := HE.out
  exact post_own f2 rfl rfl rfl Try.underlying31 rfl (by kernel_rfl) f1
end Go.Proofs.Ytchdoignomidjaa.F

/- The walks of fulcrummem: SameNat, SameInt, SameRat, where both are the same. -/
import Derived.Test.YtchdoignomidjaaRefm
set_option linter.unusedVariables false
set_option linter.unusedSimpArgs false
namespace Go.Proofs.Ytchdoignomidjaa.F
open Go.RowKit Go.Shelf Go.Proofs.YtchdoignomidjaaW.PrintLast

set_option maxHeartbeats 1000000 in
theorem same_Nat (A : Option Addr) (c : Nat) (B : Option Addr) (d : Nat) (xs : List Int) (w : World) (h : In w A c xs) (k : In w B d xs) (hm : xs.length ≤ 1099511627776) :
    Calls Try.prog 59 #[.slice A xs.length c, .slice B xs.length d] w fun e w' => e = .returned (.bool true) ∧ Below w.heap.size w w' := by
  have hc := h.cap
  have kc := k.cap
  have H1 := Lib.hid h.row
  have K1 := Lib.hid k.row
  clear h k
  go_enter Try.func59, Try.ntmps59
  go_wp2
  go_loopg [5] xs.length (fun gg s5 wr => ∃ i : Nat, i + gg = xs.length ∧ s5 = .int .i64 i ∧ ∃ n, wr = w.drewN n)
  case atStart => exact ⟨0, by omega, rfl, 0, rfl⟩
  case round =>
    obtain ⟨i, hg, rfl, n, rfl⟩ := hrel
    by_cases hlt : i < xs.length
    · have hltz : (i : Int) < (xs.length : Int) := by omega
      obtain ⟨ad, rfl, hcell⟩ := Knd.at_int H1.out i hlt
      obtain ⟨bd, rfl, hcell2⟩ := Knd.at_int K1.out i hlt
      generalize xs[i] = x at *
      go_wp2
      go_quiet (fail)
      go_wp2
      go_roundg (xs.length - (i + 1))
      case measure => omega
      case rel => exact ⟨i + 1, by omega, by go_num, _, rfl⟩
    · have hltz : ¬ (i : Int) < (xs.length : Int) := by omega
      go_wp2
      go_ret
      exact ⟨rfl, below_drewN (Below.refl _ _) n⟩

set_option maxHeartbeats 1000000 in
theorem same_Int (s : Bool) (A : Option Addr) (c : Nat) (B : Option Addr) (d : Nat) (xs : List Int) (w : World) (h : In w A c xs) (k : In w B d xs) (hm : xs.length ≤ 1099511627776) :
    Calls Try.prog 58 #[.agg #[.bool s, .slice A xs.length c], .agg #[.bool s, .slice B xs.length d]] w fun e w' => e = .returned (.bool true) ∧ Below w.heap.size w w' := by
  have hS := Lib.hid (fun (W : World) (hb : Below w.heap.size w W) => same_Nat A c B d xs W (h.below hb) (k.below hb) hm)
  clear h k
  have HF := Lib.hid (((Fr.refl w).box [.bool s, .slice A xs.length c] 29).box [.bool s, .slice B xs.length d] 29)
  go_enter Try.func58, Try.ntmps58
  go_wp2_with fail
  refine (hS.out _ HF.out.bel).mono ?_
  rintro e W1 ⟨rfl, hb⟩
  replace HF := Lib.hid (HF.out.below hb)
  clear hb
  go_wp2
  go_ret
  exact ⟨rfl, HF.out.bel⟩

set_option maxHeartbeats 1000000 in
theorem same_Rat (q : Rat) (A1 : Option Addr) (c1 : Nat) (B1 : Option Addr) (d1 : Nat) (A2 : Option Addr) (c2 : Nat) (B2 : Option Addr) (d2 : Nat) (w : World) (h : InQ w A1 c1 B1 d1 q) (k : InQ w A2 c2 B2 d2 q) (hm : (dg q.num.natAbs).length ≤ 1099511627776) (km : (dg q.den).length ≤ 1099511627776) :
    Calls Try.prog 16 #[qv q A1 c1 B1 d1, qv q A2 c2 B2 d2] w fun e w' => e = .returned (.bool true) ∧ Below w.heap.size w w' := by
  have hS := Lib.hid (fun (W : World) (hb : Below w.heap.size w W) => same_Int (decide (q.num < 0)) A1 c1 A2 c2 _ W (h.num.below hb) (k.num.below hb) hm)
  have hD := Lib.hid (fun (W : World) (hb : Below w.heap.size w W) => same_Nat B1 d1 B2 d2 _ W (h.den.below hb) (k.den.below hb) km)
  clear h k
  unfold qv
  have HF := Lib.hid (((Fr.refl w).box [.bool (decide (q.num < 0)), .slice A1 (dg q.num.natAbs).length c1, .slice B1 (dg q.den).length d1] 31).box [.bool (decide (q.num < 0)), .slice A2 (dg q.num.natAbs).length c2, .slice B2 (dg q.den).length d2] 31)
  have hsz : (w.alloc (.cells [Value.bool (decide (q.num < 0)), .slice A1 (dg q.num.natAbs).length c1, .slice B1 (dg q.den).length d1].toArray 31)).heap.size = w.heap.size + 1 := by simp
  rw [hsz] at HF
  clear hsz
  go_enter Try.func16, Try.ntmps16
  go_wp2_with fail
  refine (hS.out _ HF.out.bel).mono ?_
  rintro e W1 ⟨rfl, hb⟩
  replace HF := Lib.hid (HF.out.below hb)
  clear hb
  have hc0 := HF.out.cellN 1 rfl 2 rfl
  have hc1 := HF.out.cellN 0 rfl 2 rfl
  go_wp2_with fail
  refine (hD.out _ HF.out.bel).mono ?_
  rintro e W2 ⟨rfl, hb⟩
  replace HF := Lib.hid (HF.out.below hb)
  clear hb hc0 hc1
  go_wp2
  go_ret
  exact ⟨rfl, HF.out.bel⟩
end Go.Proofs.Ytchdoignomidjaa.F

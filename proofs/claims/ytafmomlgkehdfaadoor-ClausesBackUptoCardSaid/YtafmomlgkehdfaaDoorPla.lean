/- ClausesParse's law: the walks of same, sameAll and of the law. Condition: texts of at most 67108864 bytes. -/
import Derived.Test.YtafmomlgkehdfaaDoorPrp
set_option linter.unusedVariables false
set_option linter.unusedSimpArgs false
namespace Go.Proofs.YtafmomlgkehdfaaDoor.F
open Go.RowKit Go.Shelf

set_option maxHeartbeats 1000000 in
theorem same_ (xs : List Int) (A B : Option Addr) (c d : Nat) (w : World) (hA : (Knd.int .i64).Row w A xs) (hB : (Knd.int .i64).Row w B xs) (hm : xs.length ≤ 9223372036854775807) :
    Calls Tryd.prog 25 #[.slice A xs.length c, .slice B xs.length d] w fun e w' => e = .returned (.bool true) ∧ Dr w w' := by
  have HA := Lib.hid hA
  have HB := Lib.hid hB
  clear hA hB
  go_enter Tryd.func25, Tryd.ntmps25
  go_wp2
  go_loopg [5] xs.length (fun gg s5 wr => ∃ i : Nat, i ≤ xs.length ∧ xs.length - i ≤ gg ∧ s5 = .int .i64 i ∧ Hid (Dr w wr))
  case atStart => exact ⟨0, Nat.zero_le _, by omega, rfl, Dr.refl _⟩
  case round =>
    obtain ⟨i, hi, hg, rfl, HW⟩ := hrel
    by_cases hlt : i < xs.length
    · have hltz : (i : Int) < (xs.length : Int) := by omega
      obtain ⟨ad, rfl, h1⟩ := Knd.at_int HA.out i hlt
      obtain ⟨bd, rfl, h2⟩ := Knd.at_int HB.out i hlt
      have hb : Below w.heap.size w wr := by obtain ⟨q, rfl⟩ := HW.out; exact below_drewN (Below.refl _ _) q
      have c1 := cell_below hb h1
      have c2 := cell_below hb h2
      clear hb
      clear h1 h2
      generalize xs[i] = y at *
      go_wp2_with fail
      go_quiet (fail)
      go_wp2
      go_roundg (xs.length - (i + 1))
      case measure => omega
      case rel => exact ⟨i + 1, by omega, by omega, by go_num, HW.out.step _⟩
    · have hltz : ¬ (i : Int) < (xs.length : Int) := by omega
      go_wp2
      go_ret
      exact ⟨rfl, HW.out⟩

set_option maxHeartbeats 1000000 in
set_option maxRecDepth 100000 in
theorem sameAll_ (l : List (List Int)) (A B : Option Addr) (c d : Nat) (w : World) (hA : (Knd.int .i64).slice.Row w A l) (hB : (Knd.int .i64).slice.Row w B l) (hm : l.length ≤ 9223372036854775807) :
    Calls Tryd.prog 10 #[.slice A l.length c, .slice B l.length d] w fun e w' => e = .returned (.bool true) ∧ Below w.heap.size w w' := by
  have HA := Lib.hid hA
  have HB := Lib.hid hB
  clear hA hB
  go_enter Tryd.func10, Tryd.ntmps10
  go_wp2
  go_loopg [5] l.length (fun gg s5 wr => ∃ i : Nat, i ≤ l.length ∧ l.length - i ≤ gg ∧ s5 = .int .i64 i ∧ Hid (Below w.heap.size w wr))
  case atStart => exact ⟨0, Nat.zero_le _, by omega, rfl, Below.refl _ _⟩
  case round =>
    obtain ⟨i, hi, hg, rfl, HW⟩ := hrel
    by_cases hlt : i < l.length
    · have hltz : (i : Int) < (l.length : Int) := by omega
      obtain ⟨ad, A1, c1, rfl, h1, _, hm1, hr1⟩ := Knd.at_slice (HA.out.below HW.out) i hlt
      obtain ⟨bd, B1, d1, rfl, h2, _, hm2, hr2⟩ := Knd.at_slice (HB.out.below HW.out) i hlt
      generalize l[i] = y at *
      have HS := Lib.hid (fun (W : World) (hb : Below wr.heap.size wr W) => same_ y A1 B1 c1 d1 W (hr1.below hb) (hr2.below hb) hm1)
      have hSx := fun (W : World) (hb : Below wr.heap.size wr W) => same_ y A1 B1 c1 d1 W (hr1.below hb) (hr2.below hb) hm1
      have hSq := fun n => hSx (wr.drewN n) (below_drewN (Below.refl _ _) n)
      clear hSx HS
      go_wp2_with fail
      go_quiet (first | (go_at_call 25; refine Calls.quiet_of (hSq _)))
      go_wp2
      go_roundg (l.length - (i + 1))
      case measure => omega
      case rel => exact ⟨i + 1, by omega, by omega, by go_num, below_drewN HW.out _⟩
    · have hltz : ¬ (i : Int) < (l.length : Int) := by omega
      go_wp2
      go_ret
      exact ⟨rfl, HW.out⟩

set_option maxHeartbeats 1000000 in
set_option maxRecDepth 100000 in
theorem law_Parse (l : List UInt8) (w : World) (hl : l.length ≤ 67108864) (m : Int) (hm : w.cell? ⟨1, 0, none⟩ = some (.int .i64 m)) :
    Calls Tryd.prog 4 #[.string ⟨l.toArray⟩] w fun e w' => e = .returned (.bool true) ∧ Below w.heap.size w w' := by
  have HP := Lib.hid (Parse l w hl m hm)
  have HQ := Lib.hid (fun W => ref_Parse l W hl)
  clear hm
  go_enter Tryd.func4, Tryd.ntmps4
  go_wp2_with fail
  refine HP.out.mono ?_
  rintro e W1 ⟨A, c, rfl, h1, h2, h3, h4⟩
  have HB := Lib.hid h4
  have HR := Lib.hid h3
  have hlc : (parseV l).2.1.length ≤ 9223372036854775807 := by simp only [maxLen] at h2; omega
  clear h1 h2 h3 h4 HP
  go_wp2_with fail
  refine (HQ.out _).mono ?_
  rintro e W2 ⟨A2, c2, rfl, h1, h2, h3, h4⟩
  have HS := Lib.hid (sameAll_ (parseV l).2.1 A A2 c c2 W2 (HR.out.below h4) h3 hlc)
  replace HB := Lib.hid (HB.out.trans (h4.mono HB.out.size))
  clear h1 h2 h3 h4 HQ HR
  generalize parseV l = v at *
  obtain ⟨v1, v2, v3, v4⟩ := v
  simp only at *
  go_wp2_with fail
  refine HS.out.mono ?_
  rintro e W3 ⟨rfl, h4⟩
  replace HB := Lib.hid (HB.out.trans (h4.mono HB.out.size))
  clear HS h4
  go_wp2
  go_ret
  exact ⟨rfl, HB.out⟩
end Go.Proofs.YtafmomlgkehdfaaDoor.F

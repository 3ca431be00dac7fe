/- The walks behind ConsoleNobody: a console that is nil, or that nobody made, is done, and tells nothing. -/
import Derived.Test.YtkeenmkfoigmgaaGreatDoorChecked
import Derived.WalkKit
import Derived.KernelRfl
import Derived.Lib.Hide
import Derived.Deep.LoopGhost
import Derived.Deep.QuietTactic
import Derived.BigQuiet
import Derived.Deep.Draws
set_option linter.unusedVariables false
set_option linter.unusedSimpArgs false
namespace Go.Proofs.YtkeenmkfoigmgaaGreatDoor.wk
open Go.RowKit

def empty : Value := .string { data := #[] }
theorem done_nil (w : World) : Calls Tryz.prog 6 #[.pointer none] w fun e w' => e = .returned (.bool true) ∧ w = w' := by
  go_enter Tryz.func6, Tryz.ntmps6
  go_wp2
  go_ret
  exact ⟨rfl, rfl⟩
theorem done_zero (g : Nat) (w : World) (hc : w.cell? ⟨g, 0, none⟩ = some (.bool false)) : Calls Tryz.prog 6 #[.pointer (some ⟨g, 0, none⟩)] w fun e w' => e = .returned (.bool true) ∧ w = w' := by
  go_enter Tryz.func6, Tryz.ntmps6
  go_wp2
  go_ret
  exact ⟨rfl, rfl⟩
theorem feed (p : Value) (s : ByteArray) (w : World) (hd : Calls Tryz.prog 6 #[p] w fun e w' => e = .returned (.bool true) ∧ w = w') : Calls Tryz.prog 4 #[p, .string s] w fun e w' => e = .returned empty ∧ w = w' := by
  have H := Lib.hid hd
  clear hd
  go_enter Tryz.func4, Tryz.ntmps4
  go_wp2_with fail
  refine H.out.mono ?_
  rintro e w' ⟨rfl, rfl⟩
  go_wp2
  go_ret
  exact ⟨rfl, rfl⟩
theorem end_ (p : Value) (w : World) (hd : Calls Tryz.prog 6 #[p] w fun e w' => e = .returned (.bool true) ∧ w = w') : Calls Tryz.prog 5 #[p] w fun e w' => e = .returned empty ∧ w = w' := by
  have H := Lib.hid hd
  clear hd
  go_enter Tryz.func5, Tryz.ntmps5
  go_wp2_with fail
  refine H.out.mono ?_
  rintro e w' ⟨rfl, rfl⟩
  go_wp2
  go_ret
  exact ⟨rfl, rfl⟩

set_option maxHeartbeats 1000000 in
theorem law (s : ByteArray) (w : World) : Calls Tryz.prog 3 #[.string s] w fun e w' => e = .returned (.bool true) ∧ Below w.heap.size w w' := by
  go_enter Tryz.func3, Tryz.ntmps3
  go_wp2
  go_loopg [4] 2 (fun gg s4 wr => ∃ i : Nat, i + gg = 2 ∧ s4 = .int .i64 i ∧ Hid (Below w.heap.size w wr))
  case atStart => exact ⟨0, by omega, rfl, Below.refl _ _⟩
  case round =>
    obtain ⟨i, hg, rfl, HB⟩ := hrel
    by_cases h0 : i = 0
    · subst h0
      have hD := Lib.hid (done_nil wr)
      have hF := Lib.hid (feed (.pointer none) s wr hD.out)
      have hE := Lib.hid (end_ (.pointer none) wr hD.out)
      go_wp2_with fail
      refine hF.out.mono ?_
      rintro e w' ⟨rfl, rfl⟩
      unfold empty
      go_wp2_with fail
      refine hE.out.mono ?_
      rintro e w' ⟨rfl, rfl⟩
      unfold empty
      go_wp2_with fail
      refine hD.out.mono ?_
      rintro e w' ⟨rfl, rfl⟩
      go_wp2
      go_roundg 1
      case measure => omega
      case rel => exact ⟨1, by omega, by go_num, HB⟩
    · by_cases h1 : i = 1
      · subst h1
        have HB2 := Lib.hid (HB.out.alloc HB.out.size (.cells #[.bool false, .pointer none, .pointer none, .map none, .slice none 0 0, .bool false, .bool false, .map none] 29))
        have hD := Lib.hid (done_zero wr.heap.size (wr.alloc (.cells #[.bool false, .pointer none, .pointer none, .map none, .slice none 0 0, .bool false, .bool false, .map none] 29)) (by simp [go_sem]))
        have hF := Lib.hid (feed (.pointer (some ⟨wr.heap.size, 0, none⟩)) s _ hD.out)
        have hE := Lib.hid (end_ (.pointer (some ⟨wr.heap.size, 0, none⟩)) _ hD.out)
        go_wp2_with fail
        refine hF.out.mono ?_
        rintro e w' ⟨rfl, rfl⟩
        unfold empty
        go_wp2_with fail
        refine hE.out.mono ?_
        rintro e w' ⟨rfl, rfl⟩
        unfold empty
        go_wp2_with fail
        refine hD.out.mono ?_
        rintro e w' ⟨rfl, rfl⟩
        go_wp2
        go_roundg 0
        case measure => omega
        case rel => exact ⟨2, by omega, by go_num, HB2⟩
      · obtain rfl : i = 2 := by omega
        go_wp2
        go_ret
        exact ⟨rfl, HB.out⟩
end Go.Proofs.YtkeenmkfoigmgaaGreatDoor.wk

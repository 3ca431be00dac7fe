/- The law behind TermsNobody: a bank that is nil, or that nobody made, refuses every call. -/
import Derived.Test.YtelpmfpdddipeaaGreatDoorTame
set_option linter.unusedVariables false
set_option linter.unusedSimpArgs false
namespace Go.Proofs.YtelpmfpdddipeaaGreatDoor.wk
open Go.RowKit

set_option maxHeartbeats 4000000 in
set_option maxRecDepth 100000 in
theorem law (o0 o1 o2 o3 o4 o5 o6 o7 o8 o9 o10 o11 o12 o13 o14 o15 o16 o17 o18 : Value) (w : World) (h : NodeAt w [o11, o12, o13, o14, o15, o16, o17]) (hone : ∀ v ∈ [o0, o1, o2, o3, o4, o5, o6, o7, o8, o9, o10, o11, o12, o13, o14, o15, o16, o17, o18], v.oneCell' = true) : Calls Tryz.prog 3 #[.agg #[o0, o1, o2, o3, o4, o5, o6, o7, o8, o9, o10, o11, o12, o13, o14, o15, o16, o17, o18]] w fun e w' => e = .returned (.bool true) ∧ Below w.heap.size w w' := by
  have HO := Lib.hid (Own.mk (w := w) [o0, o1, o2, o3, o4, o5, o6, o7, o8, o9, o10, o11, o12, o13, o14, o15, o16, o17, o18] 38)
  have HW := Lib.hid ((Below.refl _ w).alloc (Nat.le_refl _) (.cells #[o0, o1, o2, o3, o4, o5, o6, o7, o8, o9, o10, o11, o12, o13, o14, o15, o16, o17, o18] 38))
  have HL := Lib.hid (fun (W : World) (hb : NodeAt W [o11, o12, o13, o14, o15, o16, o17]) => tame (w := W) o0 o1 o2 o3 o4 o5 o6 o7 o8 o9 o10 o11 o12 o13 o14 o15 o16 o17 o18 hb hone)
  have HN := Lib.hid (h.lasts HW.out)
  have HK := Lib.hid hone
  clear h hone
  go_enter Tryz.func3, Tryz.ntmps3
  go_wp2_with (refine wpL_load rfl 38 _ rfl w.heap.size 0 rfl HO.out [o0, o1, o2, o3, o4, o5, o6, o7, o8, o9, o10, o11, o12, o13, o14, o15, o16, o17, o18] rfl Tryz.underlying38 rfl (by kernel_rfl) ?_)
  refine (HL.out _ HN.out).mono ?_
  rintro e w1 ⟨⟨n0, n1, n2, n3, n4, n5, n6, rfl, hn⟩, hb⟩
  replace HO := Lib.hid (HO.out.below hb)
  replace HW := Lib.hid (HW.out.trans (hb.mono HW.out.size))
  have HK2 : Hid (∀ v ∈ [o0, o1, o2, o3, o4, o5, o6, o7, o8, o9, o10, n0, n1, n2, n3, n4, n5, n6, o18], v.oneCell' = true) := by
    intro v hv
    simp only [List.mem_cons, List.not_mem_nil, or_false] at hv
    rcases hv with rfl | rfl | rfl | rfl | rfl | rfl | rfl | rfl | rfl | rfl | rfl | rfl | rfl | rfl | rfl | rfl | rfl | rfl | rfl
    · exact HK.out _ (by simp)
    · exact HK.out _ (by simp)
    · exact HK.out _ (by simp)
    · exact HK.out _ (by simp)
    · exact HK.out _ (by simp)
    · exact HK.out _ (by simp)
    · exact HK.out _ (by simp)
    · exact HK.out _ (by simp)
    · exact HK.out _ (by simp)
    · exact HK.out _ (by simp)
    · exact HK.out _ (by simp)
    · exact hn _ (by simp)
    · exact hn _ (by simp)
    · exact hn _ (by simp)
    · exact hn _ (by simp)
    · exact hn _ (by simp)
    · exact hn _ (by simp)
    · exact hn _ (by simp)
    · exact HK.out _ (by simp)
  clear hb HL HN hn HK
  go_wp2_with (refine wpL_store rfl 38 _ _ rfl rfl w.heap.size 0 rfl HO.out [o0, o1, o2, o3, o4, o5, o6, o7, o8, o9, o10, n0, n1, n2, n3, n4, n5, n6, o18] rfl (by simp) (by kernel_rfl) HK2.out ?_; intro w2 h2 h3; have HO2 := Lib.hid (show Own w2 w.heap.size [o0, o1, o2, o3, o4, o5, o6, o7, o8, o9, o10, n0, n1, n2, n3, n4, n5, n6, o18] from h2); have HW2 := Lib.hid (HW.out.trans (h3.below (Nat.le_refl _))); clear h2 h3 HO HW HK2)
  go_loopg [4] 2 (fun gg s4 wr => ∃ i : Nat, i + gg = 2 ∧ s4 = .int .i64 i ∧ Hid (Below w.heap.size w wr) ∧ Hid (Own wr w.heap.size [o0, o1, o2, o3, o4, o5, o6, o7, o8, o9, o10, n0, n1, n2, n3, n4, n5, n6, o18]))
  case atStart => exact ⟨0, by omega, rfl, HW2, HO2⟩
  case round =>
    clear HW2 HO2
    obtain ⟨i, hg, rfl, HW, HO⟩ := hrel
    by_cases h0 : i = 0
    · subst h0
      obtain ⟨W0, hW0⟩ : ∃ W0, W0 = wr := ⟨_, rfl⟩
      have HB := Lib.hid (show Below W0.heap.size W0 wr by rw [hW0]; exact Below.refl _ _)
      have HD0 := Lib.hid (dead_nil W0)
      clear hW0
      have HD := Lib.hid (show Dead W0 (.pointer none) from HD0.out)
      clear HD0
      go_wp2_with (first | (refine wpL_load rfl 30 _ rfl w.heap.size 1 rfl HO.out [o1, o2, o3, o4, o5, o6, o7] rfl Tryz.underlying30 rfl (by kernel_rfl) ?_) | fail)
      refine (m_Add o1 o2 o3 o4 o5 o6 o7 W0 (.pointer none) HD.out _ HB.out).mono ?_
      rintro e W1 ⟨rfl, hb⟩
      replace HO := Lib.hid (HO.out.below hb)
      replace HW := Lib.hid (HW.out.trans (hb.mono HW.out.size))
      replace HB := Lib.hid (HB.out.trans (hb.mono HB.out.size))
      clear hb
      have e8 := HO.out.cell 8 rfl
      have e9 := HO.out.cell 9 rfl
      go_wp2_with fail
      refine (m_Declare o8 o9 W0 (.pointer none) HD.out _ HB.out).mono ?_
      rintro e W1 ⟨rfl, hb⟩
      replace HO := Lib.hid (HO.out.below hb)
      replace HW := Lib.hid (HW.out.trans (hb.mono HW.out.size))
      replace HB := Lib.hid (HB.out.trans (hb.mono HB.out.size))
      clear hb
      clear e8 e9
      have e8 := HO.out.cell 8 rfl
      have e9 := HO.out.cell 9 rfl
      have e10 := HO.out.cell 10 rfl
      go_wp2_with (first | (refine wpL_load rfl 36 _ rfl w.heap.size 11 rfl HO.out [n0, n1, n2, n3, n4, n5, n6] rfl Tryz.underlying36 rfl (by kernel_rfl) ?_) | fail)
      refine (m_Define o8 o10 o9 n0 n1 n2 n3 n4 n5 n6 W0 (.pointer none) HD.out _ HB.out).mono ?_
      rintro e W1 ⟨rfl, hb⟩
      replace HO := Lib.hid (HO.out.below hb)
      replace HW := Lib.hid (HW.out.trans (hb.mono HW.out.size))
      replace HB := Lib.hid (HB.out.trans (hb.mono HB.out.size))
      clear hb
      clear e8 e9 e10
      replace HO := Lib.hid (HO.out.alloc (.cells #[.int .i64 0, .string { data := #[] }, .int .i64 0, .int .i64 0, .int .i64 0, .int .i64 0, .slice none 0 0] 36))
      replace HW := Lib.hid (HW.out.alloc HW.out.size (.cells #[.int .i64 0, .string { data := #[] }, .int .i64 0, .int .i64 0, .int .i64 0, .int .i64 0, .slice none 0 0] 36))
      replace HB := Lib.hid (HB.out.alloc HB.out.size (.cells #[.int .i64 0, .string { data := #[] }, .int .i64 0, .int .i64 0, .int .i64 0, .int .i64 0, .slice none 0 0] 36))
      have e18 := HO.out.cell 18 rfl
      go_wp2_with fail
      refine (m_Get o18 W0 (.pointer none) HD.out _ HB.out).mono ?_
      rintro e W1 ⟨rfl, hb⟩
      replace HO := Lib.hid (HO.out.below hb)
      replace HW := Lib.hid (HW.out.trans (hb.mono HW.out.size))
      replace HB := Lib.hid (HB.out.trans (hb.mono HB.out.size))
      clear hb
      clear e18
      replace HO := Lib.hid (HO.out.alloc (.cells #[.int .i64 0, .int .i64 0, .string { data := #[] }, .bool false, .slice none 0 0, .slice none 0 0, .slice none 0 0] 30))
      replace HW := Lib.hid (HW.out.alloc HW.out.size (.cells #[.int .i64 0, .int .i64 0, .string { data := #[] }, .bool false, .slice none 0 0, .slice none 0 0, .slice none 0 0] 30))
      replace HB := Lib.hid (HB.out.alloc HB.out.size (.cells #[.int .i64 0, .int .i64 0, .string { data := #[] }, .bool false, .slice none 0 0, .slice none 0 0, .slice none 0 0] 30))
      go_wp2_with (first | (refine wpL_load rfl 36 _ rfl w.heap.size 11 rfl HO.out [n0, n1, n2, n3, n4, n5, n6] rfl Tryz.underlying36 rfl (by kernel_rfl) ?_) | fail)
      refine (m_Read n0 n1 n2 n3 n4 n5 n6 W0 (none) HD.out _ HB.out).mono ?_
      rintro e W1 ⟨rfl, hb⟩
      replace HO := Lib.hid (HO.out.below hb)
      replace HW := Lib.hid (HW.out.trans (hb.mono HW.out.size))
      replace HB := Lib.hid (HB.out.trans (hb.mono HB.out.size))
      clear hb
      replace HO := Lib.hid (HO.out.alloc (.cells #[.int .i64 0, .string { data := #[] }, .int .i64 0, .int .i64 0, .int .i64 0, .int .i64 0, .slice none 0 0] 36))
      replace HW := Lib.hid (HW.out.alloc HW.out.size (.cells #[.int .i64 0, .string { data := #[] }, .int .i64 0, .int .i64 0, .int .i64 0, .int .i64 0, .slice none 0 0] 36))
      replace HB := Lib.hid (HB.out.alloc HB.out.size (.cells #[.int .i64 0, .string { data := #[] }, .int .i64 0, .int .i64 0, .int .i64 0, .int .i64 0, .slice none 0 0] 36))
      have e18 := HO.out.cell 18 rfl
      go_wp2_with fail
      refine (m_Print o18 W0 (.pointer none) HD.out _ HB.out).mono ?_
      rintro e W1 ⟨rfl, hb⟩
      replace HO := Lib.hid (HO.out.below hb)
      replace HW := Lib.hid (HW.out.trans (hb.mono HW.out.size))
      replace HB := Lib.hid (HB.out.trans (hb.mono HB.out.size))
      clear hb
      clear e18
      have e18 := HO.out.cell 18 rfl
      go_wp2_with fail
      refine (m_Stand o18 W0 (.pointer none) HD.out _ HB.out).mono ?_
      rintro e W1 ⟨rfl, hb⟩
      replace HO := Lib.hid (HO.out.below hb)
      replace HW := Lib.hid (HW.out.trans (hb.mono HW.out.size))
      replace HB := Lib.hid (HB.out.trans (hb.mono HB.out.size))
      clear hb
      clear e18
      go_wp2_with fail
      refine (m_Forget (.int .i64 0) W0 (.pointer none) HD.out _ HB.out).mono ?_
      rintro e W1 ⟨rfl, hb⟩
      replace HO := Lib.hid (HO.out.below hb)
      replace HW := Lib.hid (HW.out.trans (hb.mono HW.out.size))
      replace HB := Lib.hid (HB.out.trans (hb.mono HB.out.size))
      clear hb
      go_wp2_with fail
      refine (m_Len W0 (.pointer none) HD.out _ HB.out).mono ?_
      rintro e W1 ⟨rfl, hb⟩
      replace HO := Lib.hid (HO.out.below hb)
      replace HW := Lib.hid (HW.out.trans (hb.mono HW.out.size))
      replace HB := Lib.hid (HB.out.trans (hb.mono HB.out.size))
      clear hb
      go_wp2_with fail
      refine (m_Names W0 (.pointer none) HD.out _ HB.out).mono ?_
      rintro e W1 ⟨rfl, hb⟩
      replace HO := Lib.hid (HO.out.below hb)
      replace HW := Lib.hid (HW.out.trans (hb.mono HW.out.size))
      replace HB := Lib.hid (HB.out.trans (hb.mono HB.out.size))
      clear hb
      go_wp2_with fail
      refine (m_Declared W0 (.pointer none) HD.out _ HB.out).mono ?_
      rintro e W1 ⟨rfl, hb⟩
      replace HO := Lib.hid (HO.out.below hb)
      replace HW := Lib.hid (HW.out.trans (hb.mono HW.out.size))
      replace HB := Lib.hid (HB.out.trans (hb.mono HB.out.size))
      clear hb
      go_wp2
      go_roundg 1
      case measure => omega
      case rel => exact ⟨1, by omega, by go_num, HW, HO⟩
    · by_cases h1 : i = 1
      · subst h1
        obtain ⟨W0, hW0⟩ : ∃ W0, W0 = wr.alloc (.cells #[.bool false, .int .i64 0, .slice none 0 0, .map none, .slice none 0 0, .map none] 46) := ⟨_, rfl⟩
        have HB := Lib.hid (show Below W0.heap.size W0 (wr.alloc (.cells #[.bool false, .int .i64 0, .slice none 0 0, .map none, .slice none 0 0, .map none] 46)) by rw [hW0]; exact Below.refl _ _)
        have HD0 := Lib.hid (show Dead W0 (.pointer (some ⟨wr.heap.size, 0, none⟩)) from dead_zero wr.heap.size W0 (by rw [hW0]; simp [go_sem]))
        replace HO := Lib.hid (HO.out.alloc (.cells #[.bool false, .int .i64 0, .slice none 0 0, .map none, .slice none 0 0, .map none] 46))
        replace HW := Lib.hid (HW.out.alloc HW.out.size (.cells #[.bool false, .int .i64 0, .slice none 0 0, .map none, .slice none 0 0, .map none] 46))
        clear hW0
        have HD := Lib.hid (show Dead W0 (.pointer (some ⟨wr.heap.size, 0, none⟩)) from HD0.out)
        clear HD0
        go_wp2_with (first | (refine wpL_load rfl 30 _ rfl w.heap.size 1 rfl HO.out [o1, o2, o3, o4, o5, o6, o7] rfl Tryz.underlying30 rfl (by kernel_rfl) ?_) | fail)
        refine (m_Add o1 o2 o3 o4 o5 o6 o7 W0 (.pointer (some ⟨wr.heap.size, 0, none⟩)) HD.out _ HB.out).mono ?_
        rintro e W1 ⟨rfl, hb⟩
        replace HO := Lib.hid (HO.out.below hb)
        replace HW := Lib.hid (HW.out.trans (hb.mono HW.out.size))
        replace HB := Lib.hid (HB.out.trans (hb.mono HB.out.size))
        clear hb
        have e8 := HO.out.cell 8 rfl
        have e9 := HO.out.cell 9 rfl
        go_wp2_with fail
        refine (m_Declare o8 o9 W0 (.pointer (some ⟨wr.heap.size, 0, none⟩)) HD.out _ HB.out).mono ?_
        rintro e W1 ⟨rfl, hb⟩
        replace HO := Lib.hid (HO.out.below hb)
        replace HW := Lib.hid (HW.out.trans (hb.mono HW.out.size))
        replace HB := Lib.hid (HB.out.trans (hb.mono HB.out.size))
        clear hb
        clear e8 e9
        have e8 := HO.out.cell 8 rfl
        have e9 := HO.out.cell 9 rfl
        have e10 := HO.out.cell 10 rfl
        go_wp2_with (first | (refine wpL_load rfl 36 _ rfl w.heap.size 11 rfl HO.out [n0, n1, n2, n3, n4, n5, n6] rfl Tryz.underlying36 rfl (by kernel_rfl) ?_) | fail)
        refine (m_Define o8 o10 o9 n0 n1 n2 n3 n4 n5 n6 W0 (.pointer (some ⟨wr.heap.size, 0, none⟩)) HD.out _ HB.out).mono ?_
        rintro e W1 ⟨rfl, hb⟩
        replace HO := Lib.hid (HO.out.below hb)
        replace HW := Lib.hid (HW.out.trans (hb.mono HW.out.size))
        replace HB := Lib.hid (HB.out.trans (hb.mono HB.out.size))
        clear hb
        clear e8 e9 e10
        replace HO := Lib.hid (HO.out.alloc (.cells #[.int .i64 0, .string { data := #[] }, .int .i64 0, .int .i64 0, .int .i64 0, .int .i64 0, .slice none 0 0] 36))
        replace HW := Lib.hid (HW.out.alloc HW.out.size (.cells #[.int .i64 0, .string { data := #[] }, .int .i64 0, .int .i64 0, .int .i64 0, .int .i64 0, .slice none 0 0] 36))
        replace HB := Lib.hid (HB.out.alloc HB.out.size (.cells #[.int .i64 0, .string { data := #[] }, .int .i64 0, .int .i64 0, .int .i64 0, .int .i64 0, .slice none 0 0] 36))
        have e18 := HO.out.cell 18 rfl
        go_wp2_with fail
        refine (m_Get o18 W0 (.pointer (some ⟨wr.heap.size, 0, none⟩)) HD.out _ HB.out).mono ?_
        rintro e W1 ⟨rfl, hb⟩
        replace HO := Lib.hid (HO.out.below hb)
        replace HW := Lib.hid (HW.out.trans (hb.mono HW.out.size))
        replace HB := Lib.hid (HB.out.trans (hb.mono HB.out.size))
        clear hb
        clear e18
        replace HO := Lib.hid (HO.out.alloc (.cells #[.int .i64 0, .int .i64 0, .string { data := #[] }, .bool false, .slice none 0 0, .slice none 0 0, .slice none 0 0] 30))
        replace HW := Lib.hid (HW.out.alloc HW.out.size (.cells #[.int .i64 0, .int .i64 0, .string { data := #[] }, .bool false, .slice none 0 0, .slice none 0 0, .slice none 0 0] 30))
        replace HB := Lib.hid (HB.out.alloc HB.out.size (.cells #[.int .i64 0, .int .i64 0, .string { data := #[] }, .bool false, .slice none 0 0, .slice none 0 0, .slice none 0 0] 30))
        go_wp2_with (first | (refine wpL_load rfl 36 _ rfl w.heap.size 11 rfl HO.out [n0, n1, n2, n3, n4, n5, n6] rfl Tryz.underlying36 rfl (by kernel_rfl) ?_) | fail)
        refine (m_Read n0 n1 n2 n3 n4 n5 n6 W0 ((some ⟨wr.heap.size, 0, none⟩)) HD.out _ HB.out).mono ?_
        rintro e W1 ⟨rfl, hb⟩
        replace HO := Lib.hid (HO.out.below hb)
        replace HW := Lib.hid (HW.out.trans (hb.mono HW.out.size))
        replace HB := Lib.hid (HB.out.trans (hb.mono HB.out.size))
        clear hb
        replace HO := Lib.hid (HO.out.alloc (.cells #[.int .i64 0, .string { data := #[] }, .int .i64 0, .int .i64 0, .int .i64 0, .int .i64 0, .slice none 0 0] 36))
        replace HW := Lib.hid (HW.out.alloc HW.out.size (.cells #[.int .i64 0, .string { data := #[] }, .int .i64 0, .int .i64 0, .int .i64 0, .int .i64 0, .slice none 0 0] 36))
        replace HB := Lib.hid (HB.out.alloc HB.out.size (.cells #[.int .i64 0, .string { data := #[] }, .int .i64 0, .int .i64 0, .int .i64 0, .int .i64 0, .slice none 0 0] 36))
        have e18 := HO.out.cell 18 rfl
        go_wp2_with fail
        refine (m_Print o18 W0 (.pointer (some ⟨wr.heap.size, 0, none⟩)) HD.out _ HB.out).mono ?_
        rintro e W1 ⟨rfl, hb⟩
        replace HO := Lib.hid (HO.out.below hb)
        replace HW := Lib.hid (HW.out.trans (hb.mono HW.out.size))
        replace HB := Lib.hid (HB.out.trans (hb.mono HB.out.size))
        clear hb
        clear e18
        have e18 := HO.out.cell 18 rfl
        go_wp2_with fail
        refine (m_Stand o18 W0 (.pointer (some ⟨wr.heap.size, 0, none⟩)) HD.out _ HB.out).mono ?_
        rintro e W1 ⟨rfl, hb⟩
        replace HO := Lib.hid (HO.out.below hb)
        replace HW := Lib.hid (HW.out.trans (hb.mono HW.out.size))
        replace HB := Lib.hid (HB.out.trans (hb.mono HB.out.size))
        clear hb
        clear e18
        go_wp2_with fail
        refine (m_Forget (.int .i64 0) W0 (.pointer (some ⟨wr.heap.size, 0, none⟩)) HD.out _ HB.out).mono ?_
        rintro e W1 ⟨rfl, hb⟩
        replace HO := Lib.hid (HO.out.below hb)
        replace HW := Lib.hid (HW.out.trans (hb.mono HW.out.size))
        replace HB := Lib.hid (HB.out.trans (hb.mono HB.out.size))
        clear hb
        go_wp2_with fail
        refine (m_Len W0 (.pointer (some ⟨wr.heap.size, 0, none⟩)) HD.out _ HB.out).mono ?_
        rintro e W1 ⟨rfl, hb⟩
        replace HO := Lib.hid (HO.out.below hb)
        replace HW := Lib.hid (HW.out.trans (hb.mono HW.out.size))
        replace HB := Lib.hid (HB.out.trans (hb.mono HB.out.size))
        clear hb
        go_wp2_with fail
        refine (m_Names W0 (.pointer (some ⟨wr.heap.size, 0, none⟩)) HD.out _ HB.out).mono ?_
        rintro e W1 ⟨rfl, hb⟩
        replace HO := Lib.hid (HO.out.below hb)
        replace HW := Lib.hid (HW.out.trans (hb.mono HW.out.size))
        replace HB := Lib.hid (HB.out.trans (hb.mono HB.out.size))
        clear hb
        go_wp2_with fail
        refine (m_Declared W0 (.pointer (some ⟨wr.heap.size, 0, none⟩)) HD.out _ HB.out).mono ?_
        rintro e W1 ⟨rfl, hb⟩
        replace HO := Lib.hid (HO.out.below hb)
        replace HW := Lib.hid (HW.out.trans (hb.mono HW.out.size))
        replace HB := Lib.hid (HB.out.trans (hb.mono HB.out.size))
        clear hb
        go_wp2
        go_roundg 0
        case measure => omega
        case rel => exact ⟨2, by omega, by go_num, HW, HO⟩
      · obtain rfl : i = 2 := by omega
        go_wp2
        go_ret
        exact ⟨rfl, HW.out⟩
end Go.Proofs.YtelpmfpdddipeaaGreatDoor.wk

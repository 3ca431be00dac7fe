/- The walks behind TermsNobody, second part: what a dead bank answers. -/
import Derived.Test.YtelpmfpdddipeaaGreatDoorWalk
set_option linter.unusedVariables false
set_option linter.unusedSimpArgs false
namespace Go.Proofs.YtelpmfpdddipeaaGreatDoor.wk
open Go.RowKit

theorem post3 {P : Program} {fn : Func} {R : Ending → World → Prop} {a : Act} {w : World} {p u : Tmp} {ty t : TypeId} {g : Nat} {cs : Array Value} {fr : Nat × Nat} {v : Value} {d : TypeDesc} (ho : w.heap[g]? = some (.cells cs t fr)) (h : fn.results = #[.tmp u, .cell p ty]) (h0 : a.defers = [])
    (hp : a.tmps.getD p undef = .pointer (some ⟨g, 0, none⟩)) (hv : a.tmps.getD u undef = v) (hu : P.underlying ty = some d) (hd : (match d with | .struct _ | .array _ _ => true | _ => false) = true) (hi : (P.info? ty).map (·.size) = some cs.size)
    (hR : R (.returned (.tuple #[v, .agg cs])) w) : bodyPost P fn R .ret a w := by
  subst hv
  refine bodyPost_ret ?_ h0 hR
  have hp' : a.tmps[p]?.getD undef = .pointer (some ⟨g, 0, none⟩) := by simpa using hp
  simp [results, h, hp', asAddr, run_loadVar_row w g t ty cs fr d ho hu hd hi]

/-- the bank behind p was made by nobody -/
def Dead (w : World) (p : Value) : Prop := ∀ W, Below w.heap.size w W → Calls Tryz.prog 17 #[p] W fun e w' => e = .returned (.bool false) ∧ W = w'
theorem dead_nil (w : World) : Dead w (.pointer none) := by
  intro W _
  go_enter Tryz.func17, Tryz.ntmps17
  go_wp2
  go_ret
  exact ⟨rfl, rfl⟩
theorem dead_zero (g : Nat) (w : World) (hc : w.cell? ⟨g, 0, none⟩ = some (.bool false)) : Dead w (.pointer (some ⟨g, 0, none⟩)) := by
  intro W hb
  have h1 := cell_below hb hc
  clear hc hb
  go_enter Tryz.func17, Tryz.ntmps17
  go_wp2
  go_ret
  exact ⟨rfl, rfl⟩

set_option maxHeartbeats 1000000 in
set_option maxRecDepth 100000 in
theorem m_Add (t0 t1 t2 t3 t4 t5 t6 : Value) (w : World) (p : Value) (hd : Dead w p) (W : World) (hB : Below w.heap.size w W) : Calls Tryz.prog 5 #[p, .agg #[t0, t1, t2, t3, t4, t5, t6]] W fun e w' => e = .returned (.tuple #[.int .i64 0, .int .i64 1]) ∧ Below W.heap.size W w' := by
  have HW : Hid (Below W.heap.size W (W.alloc (.cells #[t0, t1, t2, t3, t4, t5, t6] 30))) := (Below.refl _ _).alloc (by first | exact Nat.le_refl _ | (simp; omega) | simp) (.cells #[t0, t1, t2, t3, t4, t5, t6] 30)
  have H := Lib.hid (hd (W.alloc (.cells #[t0, t1, t2, t3, t4, t5, t6] 30)) ((hB).alloc (by first | exact hB.size | (have := hB.size; simp; omega)) (.cells #[t0, t1, t2, t3, t4, t5, t6] 30)))
  clear hd hB
  go_enter Tryz.func5, Tryz.ntmps5
  go_wp2_with fail
  refine H.out.mono ?_
  rintro e w' ⟨rfl, rfl⟩
  go_wp2
  go_ret2
  exact ⟨rfl, HW.out⟩

set_option maxHeartbeats 1000000 in
set_option maxRecDepth 100000 in
theorem m_Declare (a b : Value) (w : World) (p : Value) (hd : Dead w p) (W : World) (hB : Below w.heap.size w W) : Calls Tryz.prog 6 #[p, a, b] W fun e w' => e = .returned (.tuple #[.int .i64 0, .int .i64 1]) ∧ Below W.heap.size W w' := by
  have HW : Hid (Below W.heap.size W W) := Below.refl _ _
  have H := Lib.hid (hd W (hB))
  clear hd hB
  go_enter Tryz.func6, Tryz.ntmps6
  go_wp2_with fail
  refine H.out.mono ?_
  rintro e w' ⟨rfl, rfl⟩
  go_wp2
  go_ret2
  exact ⟨rfl, HW.out⟩

set_option maxHeartbeats 1000000 in
set_option maxRecDepth 100000 in
theorem m_Define (a b c t0 t1 t2 t3 t4 t5 t6 : Value) (w : World) (p : Value) (hd : Dead w p) (W : World) (hB : Below w.heap.size w W) : Calls Tryz.prog 7 #[p, a, b, c, .agg #[t0, t1, t2, t3, t4, t5, t6]] W fun e w' => e = .returned (.tuple #[.int .i64 1, .agg #[.int .i64 0, .string { data := #[] }, .int .i64 0, .int .i64 0, .int .i64 0, .int .i64 0, .slice none 0 0]]) ∧ Below W.heap.size W w' := by
  have HW : Hid (Below W.heap.size W ((W.alloc (.cells #[t0, t1, t2, t3, t4, t5, t6] 36)).alloc (.cells #[.int .i64 0, .string { data := #[] }, .int .i64 0, .int .i64 0, .int .i64 0, .int .i64 0, .slice none 0 0] 36))) := ((Below.refl _ _).alloc (by first | exact Nat.le_refl _ | (simp; omega) | simp) (.cells #[t0, t1, t2, t3, t4, t5, t6] 36)).alloc (by first | exact Nat.le_refl _ | (simp; omega) | simp) (.cells #[.int .i64 0, .string { data := #[] }, .int .i64 0, .int .i64 0, .int .i64 0, .int .i64 0, .slice none 0 0] 36)
  have H := Lib.hid (hd ((W.alloc (.cells #[t0, t1, t2, t3, t4, t5, t6] 36)).alloc (.cells #[.int .i64 0, .string { data := #[] }, .int .i64 0, .int .i64 0, .int .i64 0, .int .i64 0, .slice none 0 0] 36)) (((hB).alloc (by first | exact hB.size | (have := hB.size; simp; omega)) (.cells #[t0, t1, t2, t3, t4, t5, t6] 36)).alloc (by first | exact hB.size | (have := hB.size; simp; omega)) (.cells #[.int .i64 0, .string { data := #[] }, .int .i64 0, .int .i64 0, .int .i64 0, .int .i64 0, .slice none 0 0] 36)))
  clear hd hB
  go_enter Tryz.func7, Tryz.ntmps7
  go_wp2_with fail
  refine H.out.mono ?_
  rintro e w' ⟨rfl, rfl⟩
  go_wp2
  refine post3 (g := W.heap.size + 1) (cs := #[.int .i64 0, .string { data := #[] }, .int .i64 0, .int .i64 0, .int .i64 0, .int .i64 0, .slice none 0 0]) (t := 36) (fr := (0, 0)) (heap_alloc2_new W _ _) rfl rfl rfl rfl Tryz.underlying36 rfl (by kernel_rfl) ⟨rfl, HW.out⟩

set_option maxHeartbeats 1000000 in
set_option maxRecDepth 100000 in
theorem m_Get (a : Value) (w : World) (p : Value) (hd : Dead w p) (W : World) (hB : Below w.heap.size w W) : Calls Tryz.prog 8 #[p, a] W fun e w' => e = .returned (.tuple #[.agg #[.int .i64 0, .int .i64 0, .string { data := #[] }, .bool false, .slice none 0 0, .slice none 0 0, .slice none 0 0], .int .i64 1]) ∧ Below W.heap.size W w' := by
  have HW : Hid (Below W.heap.size W (W.alloc (.cells #[.int .i64 0, .int .i64 0, .string { data := #[] }, .bool false, .slice none 0 0, .slice none 0 0, .slice none 0 0] 30))) := (Below.refl _ _).alloc (by first | exact Nat.le_refl _ | (simp; omega) | simp) (.cells #[.int .i64 0, .int .i64 0, .string { data := #[] }, .bool false, .slice none 0 0, .slice none 0 0, .slice none 0 0] 30)
  have H := Lib.hid (hd (W.alloc (.cells #[.int .i64 0, .int .i64 0, .string { data := #[] }, .bool false, .slice none 0 0, .slice none 0 0, .slice none 0 0] 30)) ((hB).alloc (by first | exact hB.size | (have := hB.size; simp; omega)) (.cells #[.int .i64 0, .int .i64 0, .string { data := #[] }, .bool false, .slice none 0 0, .slice none 0 0, .slice none 0 0] 30)))
  clear hd hB
  go_enter Tryz.func8, Tryz.ntmps8
  go_wp2_with fail
  refine H.out.mono ?_
  rintro e w' ⟨rfl, rfl⟩
  go_wp2
  refine bodyPost_ret (v := .tuple #[.agg #[.int .i64 0, .int .i64 0, .string { data := #[] }, .bool false, .slice none 0 0, .slice none 0 0, .slice none 0 0], .int .i64 1]) (by simp [results, Tryz.results8, go_sem]) rfl ⟨rfl, ?_⟩
  repeat (refine Below.setCell ?_ (by first | (simp; done) | (simp; omega)) _)
  exact HW.out

set_option maxHeartbeats 1000000 in
set_option maxRecDepth 100000 in
theorem m_Read (t0 t1 t2 t3 t4 t5 t6 : Value) (w : World) (q : Option Addr) (hd : Dead w (.pointer q)) (W : World) (hB : Below w.heap.size w W) : Calls Tryz.prog 9 #[.pointer q, .agg #[t0, t1, t2, t3, t4, t5, t6]] W fun e w' => e = .returned (.tuple #[.int .i64 0, .int .i64 1, .agg #[.int .i64 0, .string { data := #[] }, .int .i64 0, .int .i64 0, .int .i64 0, .int .i64 0, .slice none 0 0]]) ∧ Below W.heap.size W w' := by
  have HW : Hid (Below W.heap.size W (((W.alloc (.cells #[.pointer q] 40)).alloc (.cells #[t0, t1, t2, t3, t4, t5, t6] 36)).alloc (.cells #[.int .i64 0, .string { data := #[] }, .int .i64 0, .int .i64 0, .int .i64 0, .int .i64 0, .slice none 0 0] 36))) := (((Below.refl _ _).alloc (by first | exact Nat.le_refl _ | (simp; omega) | simp) (.cells #[.pointer q] 40)).alloc (by first | exact Nat.le_refl _ | (simp; omega) | simp) (.cells #[t0, t1, t2, t3, t4, t5, t6] 36)).alloc (by first | exact Nat.le_refl _ | (simp; omega) | simp) (.cells #[.int .i64 0, .string { data := #[] }, .int .i64 0, .int .i64 0, .int .i64 0, .int .i64 0, .slice none 0 0] 36)
  have H := Lib.hid (hd (((W.alloc (.cells #[.pointer q] 40)).alloc (.cells #[t0, t1, t2, t3, t4, t5, t6] 36)).alloc (.cells #[.int .i64 0, .string { data := #[] }, .int .i64 0, .int .i64 0, .int .i64 0, .int .i64 0, .slice none 0 0] 36)) ((((hB).alloc (by first | exact hB.size | (have := hB.size; simp; omega)) (.cells #[.pointer q] 40)).alloc (by first | exact hB.size | (have := hB.size; simp; omega)) (.cells #[t0, t1, t2, t3, t4, t5, t6] 36)).alloc (by first | exact hB.size | (have := hB.size; simp; omega)) (.cells #[.int .i64 0, .string { data := #[] }, .int .i64 0, .int .i64 0, .int .i64 0, .int .i64 0, .slice none 0 0] 36)))
  clear hd hB
  go_enter Tryz.func9, Tryz.ntmps9
  go_wp2_with fail
  refine H.out.mono ?_
  rintro e w' ⟨rfl, rfl⟩
  go_wp2
  refine bodyPost_ret (v := .tuple #[.int .i64 0, .int .i64 1, .agg #[.int .i64 0, .string { data := #[] }, .int .i64 0, .int .i64 0, .int .i64 0, .int .i64 0, .slice none 0 0]]) (by simp [results, Tryz.results9, go_sem]) rfl ⟨rfl, ?_⟩
  repeat (refine Below.setCell ?_ (by first | (simp; done) | (simp; omega)) _)
  exact HW.out

set_option maxHeartbeats 1000000 in
set_option maxRecDepth 100000 in
theorem m_Print (a : Value) (w : World) (p : Value) (hd : Dead w p) (W : World) (hB : Below w.heap.size w W) : Calls Tryz.prog 10 #[p, a] W fun e w' => e = .returned (.tuple #[.string { data := #[] }, .int .i64 1]) ∧ Below W.heap.size W w' := by
  have HW : Hid (Below W.heap.size W W) := Below.refl _ _
  have H := Lib.hid (hd W (hB))
  clear hd hB
  go_enter Tryz.func10, Tryz.ntmps10
  go_wp2_with fail
  refine H.out.mono ?_
  rintro e w' ⟨rfl, rfl⟩
  go_wp2
  go_ret2
  exact ⟨rfl, HW.out⟩

set_option maxHeartbeats 1000000 in
set_option maxRecDepth 100000 in
theorem m_Stand (a : Value) (w : World) (p : Value) (hd : Dead w p) (W : World) (hB : Below w.heap.size w W) : Calls Tryz.prog 11 #[p, a] W fun e w' => e = .returned (.tuple #[.int .i64 0, .int .i64 1]) ∧ Below W.heap.size W w' := by
  have HW : Hid (Below W.heap.size W W) := Below.refl _ _
  have H := Lib.hid (hd W (hB))
  clear hd hB
  go_enter Tryz.func11, Tryz.ntmps11
  go_wp2_with fail
  refine H.out.mono ?_
  rintro e w' ⟨rfl, rfl⟩
  go_wp2
  go_ret2
  exact ⟨rfl, HW.out⟩

set_option maxHeartbeats 1000000 in
set_option maxRecDepth 100000 in
theorem m_Forget (a : Value) (w : World) (p : Value) (hd : Dead w p) (W : World) (hB : Below w.heap.size w W) : Calls Tryz.prog 12 #[p, a] W fun e w' => e = .returned (.int .i64 1) ∧ Below W.heap.size W w' := by
  have HW : Hid (Below W.heap.size W W) := Below.refl _ _
  have H := Lib.hid (hd W (hB))
  clear hd hB
  go_enter Tryz.func12, Tryz.ntmps12
  go_wp2_with fail
  refine H.out.mono ?_
  rintro e w' ⟨rfl, rfl⟩
  go_wp2
  go_ret
  exact ⟨rfl, HW.out⟩

set_option maxHeartbeats 1000000 in
set_option maxRecDepth 100000 in
theorem m_Len (w : World) (p : Value) (hd : Dead w p) (W : World) (hB : Below w.heap.size w W) : Calls Tryz.prog 13 #[p] W fun e w' => e = .returned (.int .i64 0) ∧ Below W.heap.size W w' := by
  have HW : Hid (Below W.heap.size W W) := Below.refl _ _
  have H := Lib.hid (hd W (hB))
  clear hd hB
  go_enter Tryz.func13, Tryz.ntmps13
  go_wp2_with fail
  refine H.out.mono ?_
  rintro e w' ⟨rfl, rfl⟩
  go_wp2
  go_ret
  exact ⟨rfl, HW.out⟩

set_option maxHeartbeats 1000000 in
set_option maxRecDepth 100000 in
theorem m_Names (w : World) (p : Value) (hd : Dead w p) (W : World) (hB : Below w.heap.size w W) : Calls Tryz.prog 14 #[p] W fun e w' => e = .returned (.int .i64 0) ∧ Below W.heap.size W w' := by
  have HW : Hid (Below W.heap.size W W) := Below.refl _ _
  have H := Lib.hid (hd W (hB))
  clear hd hB
  go_enter Tryz.func14, Tryz.ntmps14
  go_wp2_with fail
  refine H.out.mono ?_
  rintro e w' ⟨rfl, rfl⟩
  go_wp2
  go_ret
  exact ⟨rfl, HW.out⟩

set_option maxHeartbeats 1000000 in
set_option maxRecDepth 100000 in
theorem m_Declared (w : World) (p : Value) (hd : Dead w p) (W : World) (hB : Below w.heap.size w W) : Calls Tryz.prog 15 #[p] W fun e w' => e = .returned (.slice none 0 0) ∧ Below W.heap.size W w' := by
  have HW : Hid (Below W.heap.size W W) := Below.refl _ _
  have H := Lib.hid (hd W (hB))
  clear hd hB
  go_enter Tryz.func15, Tryz.ntmps15
  go_wp2_with fail
  refine H.out.mono ?_
  rintro e w' ⟨rfl, rfl⟩
  go_wp2
  go_ret
  exact ⟨rfl, HW.out⟩

end Go.Proofs.YtelpmfpdddipeaaGreatDoor.wk

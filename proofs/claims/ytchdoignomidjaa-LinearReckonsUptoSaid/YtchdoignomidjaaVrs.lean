import Derived.Test.YtchdoignomidjaaAds
/- The walks of Vars: the reference's and linear's; of sameInts where both rows are equal. -/
set_option linter.unusedVariables false
set_option linter.unusedSimpArgs false
namespace Go.Proofs.Ytchdoignomidjaa.F
open Go.RowKit Go.Shelf Go.Proofs.YtchdoignomidjaaW.PrintLast

/-- a form's variables -/
def fsv (l : Frm) : List Int := l.map fun m => m.1
theorem fsv_length (l : Frm) : (fsv l).length = l.length := by unfold fsv; rw [List.length_map]
theorem fsv_succ (l : Frm) (i : Nat) (h : i < l.length) : fsv (l.take (i + 1)) = fsv (l.take i) ++ [(l[i]).1] := by
  rw [List.take_succ_eq_append_getElem h]
  unfold fsv
  rw [List.map_append]
  rfl
/-- a row of numbers of the call's own -/
def ToldIs (w : World) (xs : List Int) (e : Ending) (w' : World) : Prop := ∃ v, e = .returned v ∧ OwnI w' w.heap.size v xs ∧ Below w.heap.size w w'

set_option maxHeartbeats 1000000 in
set_option maxRecDepth 100000 in
theorem r6_Vars (A : Option Addr) (c : Nat) (f : List (Int × RatD)) (w : World) (h : FRaw w A c f) :
    Calls Try.prog 45 #[.slice A f.length c] w (ToldIs w (fsv (nform (fval f)))) := by
  have hlen := h.len
  have hAll := Lib.hid (r6_Norm A c f w h)
  have hvl : (nform (fval f)).length ≤ f.length := by have := nform_len (fval f); rwa [fval_length] at this
  clear h
  generalize nform (fval f) = l at *
  go_enter Try.func45, Try.ntmps45
  go_wp2_with fail
  refine hAll.out.mono ?_
  rintro e W1 ⟨v, rfl, h1, h2⟩
  obtain ⟨A1, c1, rfl, h3⟩ := h1.fin
  have Q0 := Lib.hid h3
  have HB1 := Lib.hid h2
  have hw1 := HB1.out.size
  clear h1 h2 h3 hAll
  go_wp2
  go_loopg [3, 5] l.length (fun gg s3 s5 wr => ∃ (i : Nat) (v : Value), i + gg = l.length ∧ s5 = .int .i64 i ∧ v = s3 ∧ Hid (OwnI wr W1.heap.size v (fsv (l.take i))) ∧ Hid (Below W1.heap.size W1 wr))
  case atStart => exact ⟨0, _, by omega, rfl, rfl, OwnI.nil _ _, Below.refl _ _⟩
  case round =>
    obtain ⟨i, v, hg, rfl, rfl, HO, HB⟩ := hrel
    by_cases hlt : i < l.length
    · have hltz : (i : Int) < (l.length : Int) := by omega
      have HS := Lib.hid (fsv_succ l i hlt)
      obtain ⟨ad, r, rfl, hvq, hat, i1, i2, i3, i4⟩ := (Q0.out.below HB.out).at_ i hlt
      rw [← hvq] at HS
      have hvl2 : (fsv (l.take i)).length = i := by rw [fsv_length, List.length_take]; omega
      obtain ⟨u, q, A2, c2, B2, d2⟩ := r
      dsimp only at i1 i2 i3 i4
      replace HS : Hid (fsv (l.take (i + 1)) = fsv (l.take i) ++ [u]) := HS
      clear hat hvq
      have hal := Lib.hid ((Below.refl _ wr).alloc (Nat.le_refl _) (.cells #[.int .i64 u] 3))
      obtain ⟨v', w', hrun, hO', hS⟩ := pushI (t := 40) (ty := 40) (y := u) Try.underlying40 (HO.out.below hal.out) (Own.mk (w := wr) [.int .i64 u] 3) (by omega) (Nat.le_trans HB.out.size (by simp))
      have HP := Lib.hid hrun
      have HO2 := Lib.hid hO'
      have HB2 := Lib.hid ((HB.out.alloc HB.out.size (.cells #[.int .i64 u] 3)).trans hS)
      rw [← HS.out] at HO2
      clear hrun hO' hS hal HS hvl2 HO
      go_wp2_with (refine pushL_ rfl rfl rfl rfl HP.out ?_)
      go_roundg (l.length - (i + 1))
      case measure => omega
      case rel => exact ⟨i + 1, v', by omega, by go_num, rfl, HO2, HB2⟩
    · have hltz : ¬ (i : Int) < (l.length : Int) := by omega
      have HO2 := Lib.hid (show OwnI wr w.heap.size _ (fsv l) by have := HO.out.mono hw1; rwa [List.take_of_length_le (by omega)] at this)
      have HB2 := Lib.hid (HB1.out.trans (HB.out.mono hw1))
      clear HO HB
      go_wp2
      go_ret
      exact ⟨_, rfl, HO2.out, HB2.out⟩

set_option maxHeartbeats 1000000 in
set_option maxRecDepth 100000 in
theorem linear_Vars (A : Option Addr) (c : Nat) (f : List (Int × RatD)) (w : World) (h : FRaw w A c f) :
    Calls Try.prog 44 #[.slice A f.length c] w (ToldIs w (fsv (nform (fval f)))) := by
  have hlen := h.len
  have hAll := Lib.hid (linear_Norm f.length A c f w (Nat.le_refl _) h)
  have hvl : (nform (fval f)).length ≤ f.length := by have := nform_len (fval f); rwa [fval_length] at this
  clear h
  generalize nform (fval f) = l at *
  go_enter Try.func44, Try.ntmps44
  go_wp2_with fail
  refine hAll.out.mono ?_
  rintro e W1 ⟨v, rfl, h1, h2⟩
  obtain ⟨A1, c1, rfl, h3⟩ := h1.fin
  have Q0 := Lib.hid h3
  have HB1 := Lib.hid h2
  have hw1 := HB1.out.size
  clear h1 h2 h3 hAll
  go_wp2
  go_loopg [3, 9] l.length (fun gg s3 s9 wr => ∃ (i : Nat) (v : Value), i + gg = l.length ∧ s9 = .int .i64 i ∧ v = s3 ∧ Hid (OwnI wr W1.heap.size v (fsv (l.take i))) ∧ Hid (Below W1.heap.size W1 wr))
  case atStart => exact ⟨0, _, by omega, rfl, rfl, OwnI.nil _ _, Below.refl _ _⟩
  case round =>
    obtain ⟨i, v, hg, rfl, rfl, HO, HB⟩ := hrel
    by_cases hlt : i < l.length
    · have hltz : (i : Int) < (l.length : Int) := by omega
      have HS := Lib.hid (fsv_succ l i hlt)
      obtain ⟨ad, r, rfl, hvq, hat, i1, i2, i3, i4⟩ := (Q0.out.below HB.out).at_ i hlt
      rw [← hvq] at HS
      have hvl2 : (fsv (l.take i)).length = i := by rw [fsv_length, List.length_take]; omega
      obtain ⟨u, q, A2, c2, B2, d2⟩ := r
      dsimp only at i1 i2 i3 i4
      replace HS : Hid (fsv (l.take (i + 1)) = fsv (l.take i) ++ [u]) := HS
      clear hat hvq
      have hal0 := Lib.hid ((Below.refl _ wr).alloc (Nat.le_refl _) (.cells #[.int .i64 u, .bool (decide (q.num < 0)), .slice A2 (dg q.num.natAbs).length c2, .slice B2 (dg q.den).length d2] 75))
      have hal := Lib.hid ((Below.refl _ (wr.alloc (.cells #[.int .i64 u, .bool (decide (q.num < 0)), .slice A2 (dg q.num.natAbs).length c2, .slice B2 (dg q.den).length d2] 75))).alloc (Nat.le_refl _) (.cells #[.int .i64 u] 3))
      obtain ⟨v', w', hrun, hO', hS⟩ := pushI (t := 40) (ty := 40) (y := u) Try.underlying40 ((HO.out.below hal0.out).below hal.out) (Own.mk (w := (wr.alloc (.cells #[.int .i64 u, .bool (decide (q.num < 0)), .slice A2 (dg q.num.natAbs).length c2, .slice B2 (dg q.den).length d2] 75))) [.int .i64 u] 3) (by omega) (Nat.le_trans HB.out.size (by simp; omega))
      rw [show (wr.alloc (.cells #[.int .i64 u, .bool (decide (q.num < 0)), .slice A2 (dg q.num.natAbs).length c2, .slice B2 (dg q.den).length d2] 75)).heap.size = wr.heap.size + 1 by simp] at hrun
      have HP := Lib.hid hrun
      have HO2 := Lib.hid hO'
      have HB2 := Lib.hid (((HB.out.trans (hal0.out.mono HB.out.size)).trans (hal.out.mono (Nat.le_trans HB.out.size hal0.out.size))).trans hS)
      rw [← HS.out] at HO2
      clear hrun hO' hS hal HS hvl2 HO hal0
      go_wp2_with (refine pushL_ rfl rfl rfl rfl HP.out ?_)
      go_roundg (l.length - (i + 1))
      case measure => omega
      case rel => exact ⟨i + 1, v', by omega, by go_num, rfl, HO2, HB2⟩
    · have hltz : ¬ (i : Int) < (l.length : Int) := by omega
      have HO2 := Lib.hid (show OwnI wr w.heap.size _ (fsv l) by have := HO.out.mono hw1; rwa [List.take_of_length_le (by omega)] at this)
      have HB2 := Lib.hid (HB1.out.trans (HB.out.mono hw1))
      clear HO HB
      go_wp2
      go_ret
      exact ⟨_, rfl, HO2.out, HB2.out⟩

set_option maxHeartbeats 1000000 in
set_option maxRecDepth 100000 in
theorem same_Ints (A : Option Addr) (c : Nat) (B : Option Addr) (d : Nat) (xs : List Int) (w : World) (h : (Knd.int .i64).Row w A xs) (hc : xs.length ≤ c) (k : (Knd.int .i64).Row w B xs) (kc : xs.length ≤ d) (hm : xs.length ≤ 1099511627776) :
    Calls Try.prog 43 #[.slice A xs.length c, .slice B xs.length d] w (Decides w true) := by
  have H := Lib.hid h
  have K := Lib.hid k
  clear h k
  go_enter Try.func43, Try.ntmps43
  go_wp2
  go_loopg [5] xs.length (fun gg s5 wr => ∃ i : Nat, i + gg = xs.length ∧ s5 = .int .i64 i ∧ Hid (Below w.heap.size w wr))
  case atStart => exact ⟨0, by omega, rfl, Below.refl _ _⟩
  case round =>
    obtain ⟨i, hg, rfl, HB⟩ := hrel
    by_cases hlt : i < xs.length
    · have hltz : (i : Int) < (xs.length : Int) := by omega
      obtain ⟨ad, rfl, h1⟩ := Knd.at_int H.out i hlt
      obtain ⟨bd, rfl, h2⟩ := Knd.at_int K.out i hlt
      generalize xs[i] = x at *
      have HF : Hid (Fr w wr []) := ⟨HB.out, fun b hb => by cases hb⟩
      clear HB
      go_wp2_with fail
      have HF_ := Lib.hid HF.out.drew
      clear HF
      have HF := HF_
      clear HF_
      refine start_ (n := 9) (S := fun w' => w'.cell? (ad.add i) = some (.int .i64 x) ∧ w'.cell? (bd.add i) = some (.int .i64 x)) (ds := []) #[false, false, false, false, false, false, false, false, false] (by kernel_rfl) rfl rfl ⟨cell_below HF.out.bel h1, cell_below HF.out.bel h2⟩ (fun hHeld => ?_)
      generalize World.drew _ = W at *
      refine pure_ (i := 0) (N := (some 17)) (v := ?_) (a' := ?_) #[true, false, false, false, false, false, false, false, false] rfl rfl (by kernel_rfl) (fun _ _ _ h => h) (Or.inl ⟨by rfl, ?_⟩) ?_ ?_
      rotate_left
      · intro w'
        go_simp
        with_reducible rfl
      rotate_left
      · simp only [Act.put, List.setIfInBounds_toArray, List.set_cons_zero, List.set_cons_succ]
        rfl
      refine pure_ (i := 1) (N := (some 18)) (v := ?_) (a' := ?_) #[true, true, false, false, false, false, false, false, false] rfl rfl (by kernel_rfl) (fun _ _ _ h => h) (Or.inl ⟨by rfl, ?_⟩) ?_ ?_
      rotate_left
      · intro w'
        go_simp
        with_reducible rfl
      rotate_left
      · simp only [Act.put, List.setIfInBounds_toArray, List.set_cons_zero, List.set_cons_succ]
        rfl
      refine pure_ (i := 2) (N := (some 19)) (v := ?_) (a' := ?_) #[true, true, true, false, false, false, false, false, false] rfl rfl (by kernel_rfl) (fun _ _ _ h => h) (Or.inl ⟨by rfl, ?_⟩) ?_ ?_
      rotate_left
      · intro w'
        go_simp
        with_reducible rfl
      rotate_left
      · simp only [Act.put, List.setIfInBounds_toArray, List.set_cons_zero, List.set_cons_succ]
        rfl
      refine pure_ (i := 4) (N := (some 21)) (v := ?_) (a' := ?_) #[true, true, true, false, true, false, false, false, false] rfl rfl (by kernel_rfl) (fun _ _ _ h => h) (Or.inl ⟨by rfl, ?_⟩) ?_ ?_
      rotate_left
      · intro w'
        go_simp
        with_reducible rfl
      rotate_left
      · simp only [Act.put, List.setIfInBounds_toArray, List.set_cons_zero, List.set_cons_succ]
        rfl
      refine pure_ (i := 5) (N := (some 22)) (v := ?_) (a' := ?_) #[true, true, true, false, true, true, false, false, false] rfl rfl (by kernel_rfl) (fun _ _ _ h => h) (Or.inl ⟨by rfl, ?_⟩) ?_ ?_
      rotate_left
      · intro w'
        go_simp
        with_reducible rfl
      rotate_left
      · simp only [Act.put, List.setIfInBounds_toArray, List.set_cons_zero, List.set_cons_succ]
        rfl
      refine pure_ (i := 6) (N := (some 23)) (v := ?_) (a' := ?_) #[true, true, true, false, true, true, true, false, false] rfl rfl (by kernel_rfl) (fun _ _ _ h => h) (Or.inl ⟨by rfl, ?_⟩) ?_ ?_
      rotate_left
      · intro w'
        go_simp
        with_reducible rfl
      rotate_left
      · simp only [Act.put, List.setIfInBounds_toArray, List.set_cons_zero, List.set_cons_succ]
        rfl
      refine take_ (i := 3) (N := (some 20)) (v := ?_) (a' := ?_) #[true, true, true, true, true, true, true, false, false] rfl rfl (by kernel_rfl) (fun _ _ _ h => h) (Or.inl ⟨by rfl, ?_⟩) hHeld ?_ ?_
      rotate_left
      · rintro w' ⟨s0, s1⟩
        go_simp
        with_reducible rfl
      rotate_left
      · simp only [Act.put, List.setIfInBounds_toArray, List.set_cons_zero, List.set_cons_succ]
        rfl
      refine take_ (i := 7) (N := (some 24)) (v := ?_) (a' := ?_) #[true, true, true, true, true, true, true, true, false] rfl rfl (by kernel_rfl) (fun _ _ _ h => h) (Or.inl ⟨by rfl, ?_⟩) hHeld ?_ ?_
      rotate_left
      · rintro w' ⟨s0, s1⟩
        go_simp
        with_reducible rfl
      rotate_left
      · simp only [Act.put, List.setIfInBounds_toArray, List.set_cons_zero, List.set_cons_succ]
        rfl
      refine pure_ (i := 8) (N := (some 25)) (v := ?_) (a' := ?_) #[true, true, true, true, true, true, true, true, true] rfl rfl (by kernel_rfl) (fun _ _ _ h => h) (Or.inl ⟨by rfl, ?_⟩) ?_ ?_
      rotate_left
      · intro w'
        go_simp
        with_reducible rfl
      rotate_left
      · simp only [Act.put, List.setIfInBounds_toArray, List.set_cons_zero, List.set_cons_succ]
        rfl
      refine done_ (by kernel_rfl) ?_
      have HB := Lib.hid HF.out.bel
      go_wp2
      go_roundg (xs.length - (i + 1))
      case measure => omega
      case rel => exact ⟨i + 1, by omega, by go_num, HB⟩
    · have hltz : ¬ (i : Int) < (xs.length : Int) := by omega
      go_wp2
      go_ret
      exact ⟨rfl, HB.out⟩
end Go.Proofs.Ytchdoignomidjaa.F

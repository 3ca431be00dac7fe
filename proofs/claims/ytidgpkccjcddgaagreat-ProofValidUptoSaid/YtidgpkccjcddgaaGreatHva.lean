/- ProofValid. Condition: what it reads is of bulk at most 1048576. -/
import Derived.Test.YtidgpkccjcddgaaGreatGv
import Derived.ProofKit
import Derived.OpenShut
import Derived.ChangeOld
import Derived.SizedLaws
import Derived.JoinedCond
set_option linter.unusedVariables false
set_option linter.unusedSimpArgs false
namespace Go.Proofs.YtidgpkccjcddgaaGreat.F
open Go.RowKit Go.Shelf Go.Proofs.YtidgpkccjcddgaaGreatW.PrintLast

def ToldNs (w : World) (xs : List Int) (e : Ending) (w' : World) : Prop := ∃ v, e = .returned v ∧ OwnI w' w.heap.size v xs ∧ Below w.heap.size w w'

set_option maxHeartbeats 2000000 in
set_option maxRecDepth 100000 in
theorem pr_Inputs (r : RefD) (A : Option Addr) (c : Nat) (B : Option Addr) (d : Nat) (w : World) (h : RefIn w r A c B d) :
    Calls Tryz.prog 8 #[.agg #[.slice A r.1.length c, .slice B r.2.length d]] w (ToldNs w (inp r.2 r.2.length)) := by
  have hl := h.lens.2
  have hc2 := h.capS
  have hS := Lib.hid (fun (i : Nat) (hi : i < r.2.length) => stIn_row h.rowS h.goodS i hi)
  have HIy := Lib.hid (fun (i : Nat) (hi : i < r.2.length) (hk : r.2[i].1.1.1 = 1) => inp_yes hi hk)
  have HIn := Lib.hid (fun (i : Nat) (hi : i < r.2.length) (hk : r.2[i].1.1.1 ≠ 1) => inp_no hi hk)
  have HIl := Lib.hid (fun i => inp_len r.2 i)
  clear h
  have HF := Lib.hid ((Fr.refl w).box [.slice A r.1.length c, .slice B r.2.length d] 25)
  simp only [List.toArray] at HF
  generalize r.1.length = n1 at *
  go_enter Tryz.func8, Tryz.ntmps8
  go_upto_region 2 with fail
  generalize hgt : World.alloc _ _ = W at HF ⊢
  clear hgt
  have hws := HF.out.bel.size
  have a1 := HF.out.cellN 0 rfl 1 rfl
  go_wp2_with fail
  clear a1
  go_loopg [3, 9] r.2.length (fun gg s3 s wr => ∃ (i : Nat) (v : Value), i + gg = r.2.length ∧ s = .int .i64 i ∧ v = s3 ∧ Hid (OwnI wr W.heap.size v (inp r.2 i)) ∧ Hid (Below W.heap.size W wr))
  case atStart => exact ⟨0, _, by omega, rfl, rfl, OwnI.nil _ _, Below.refl _ _⟩
  case round =>
  obtain ⟨i, v, hgg, rfl, rfl, HO, HB⟩ := hrel
  have a1 := cell_below HB.out (HF.out.cellN 0 rfl 1 rfl)
  by_cases hlt : i < r.2.length
  · have hltz : (i : Int) < (r.2.length : Int) := by omega
    obtain ⟨ad, A1, c1, B1, d1, D1, e1, rfl, q0, q1, q2, q3, hst⟩ := hS.out i hlt
    have hbw := HF.out.bel.trans (HB.out.mono hws)
    have x0 := cell_below hbw q0
    have x1 := cell_below hbw q1
    have x2 := cell_below hbw q2
    have x3 := cell_below hbw q3
    have HIy2 := Lib.hid (HIy.out i hlt)
    have HIn2 := Lib.hid (HIn.out i hlt)
    have hln := Nat.lt_of_le_of_lt (HIl.out i) hlt
    clear q0 q1 q2 q3 hst hbw
    generalize r.2[i] = s at *
    obtain ⟨⟨⟨k, xs⟩, ys⟩, qs⟩ := s
    dsimp only at *
    generalize xs.length = m1 at *
    generalize ys.length = m2 at *
    generalize qs.length = m3 at *
    have hal0 := Lib.hid ((Below.refl _ wr).alloc (Nat.le_refl _) (.cells #[.int .i64 k, .slice A1 m1 c1, .slice B1 m2 d1, .slice D1 m3 e1] 40))
    by_cases hk : k = 1
    · subst hk
      have HS := Lib.hid (HIy2.out rfl)
      clear HIy2 HIn2
      have hal := Lib.hid ((Below.refl _ (wr.alloc (.cells #[.int .i64 1, .slice A1 m1 c1, .slice B1 m2 d1, .slice D1 m3 e1] 40))).alloc (Nat.le_refl _) (.cells #[.int .i64 (i : Int)] 3))
      obtain ⟨v', w', hrun, hO', hS2⟩ := pushI (t := 30) (ty := 30) (y := (i : Int)) Tryz.underlying30 ((HO.out.below hal0.out).below hal.out) (Own.mk (w := (wr.alloc (.cells #[.int .i64 1, .slice A1 m1 c1, .slice B1 m2 d1, .slice D1 m3 e1] 40))) [.int .i64 (i : Int)] 3) (by omega) (Nat.le_trans HB.out.size (by simp; omega))
      rw [show (wr.alloc (.cells #[.int .i64 1, .slice A1 m1 c1, .slice B1 m2 d1, .slice D1 m3 e1] 40)).heap.size = wr.heap.size + 1 by simp] at hrun
      have HP := Lib.hid hrun
      have HB2 := Lib.hid (((HB.out.trans (hal0.out.mono HB.out.size)).trans (hal.out.mono (Nat.le_trans HB.out.size hal0.out.size))).trans hS2)
      rw [← HS.out] at hO'
      have HO2 := Lib.hid hO'
      clear hrun hO' hS2 hal HS HO hal0
      go_wp2_with (refine pushL_ rfl rfl rfl rfl HP.out ?_)
      go_roundg (r.2.length - (i + 1))
      case measure => omega
      case rel => exact ⟨i + 1, v', by omega, by go_num, rfl, HO2, HB2⟩
    · have hkb : (k == 1) = false := by simpa using hk
      have HO2 := Lib.hid (show OwnI (wr.alloc (.cells #[.int .i64 k, .slice A1 m1 c1, .slice B1 m2 d1, .slice D1 m3 e1] 40)) W.heap.size v (inp r.2 (i + 1)) from by rw [HIn2.out hk]; exact HO.out.below hal0.out)
      clear HIy2 HIn2 hk HO
      go_wp2
      go_roundg (r.2.length - (i + 1))
      case measure => omega
      case rel => exact ⟨i + 1, v, by omega, by go_num, rfl, HO2, HB.out.trans (hal0.out.mono HB.out.size)⟩
  · have hltz : ¬ (i : Int) < (r.2.length : Int) := by omega
    have HO2 := Lib.hid (show OwnI wr w.heap.size v (inp r.2 r.2.length) from by
      have h := HO.out.mono hws
      rwa [show i = r.2.length by omega] at h)
    have HB2 := Lib.hid (HF.out.bel.trans (HB.out.mono hws))
    clear HO HB hS HIy HIn HIl
    go_wp2
    go_ret
    exact ⟨_, rfl, HO2.out, HB2.out⟩

set_option maxHeartbeats 2000000 in
set_option maxRecDepth 100000 in
theorem r24_Inputs (r : RefD) (A : Option Addr) (c : Nat) (B : Option Addr) (d : Nat) (w : World) (h : RefIn w r A c B d) :
    Calls Tryz.prog 9 #[.agg #[.slice A r.1.length c, .slice B r.2.length d]] w (ToldNs w (inp r.2 r.2.length)) := by
  have hl := h.lens.2
  have hc2 := h.capS
  have hS := Lib.hid (fun (i : Nat) (hi : i < r.2.length) => stIn_row h.rowS h.goodS i hi)
  have HIy := Lib.hid (fun (i : Nat) (hi : i < r.2.length) (hk : r.2[i].1.1.1 = 1) => inp_yes hi hk)
  have HIn := Lib.hid (fun (i : Nat) (hi : i < r.2.length) (hk : r.2[i].1.1.1 ≠ 1) => inp_no hi hk)
  have HIl := Lib.hid (fun i => inp_len r.2 i)
  clear h
  have HF := Lib.hid ((Fr.refl w).box [.slice A r.1.length c, .slice B r.2.length d] 25)
  simp only [List.toArray] at HF
  generalize r.1.length = n1 at *
  go_enter Tryz.func9, Tryz.ntmps9
  go_upto_region 2 with fail
  generalize hgt : World.alloc _ _ = W at HF ⊢
  clear hgt
  have hws := HF.out.bel.size
  have a1 := HF.out.cellN 0 rfl 1 rfl
  go_wp2_with fail
  clear a1
  go_loopg [3, 4] r.2.length (fun gg s3 s wr => ∃ (i : Nat) (v : Value), i + gg = r.2.length ∧ s = .int .i64 i ∧ v = s3 ∧ Hid (OwnI wr W.heap.size v (inp r.2 i)) ∧ Hid (Below W.heap.size W wr))
  case atStart => exact ⟨0, _, by omega, rfl, rfl, OwnI.nil _ _, Below.refl _ _⟩
  case round =>
  obtain ⟨i, v, hgg, rfl, rfl, HO, HB⟩ := hrel
  have a1 := cell_below HB.out (HF.out.cellN 0 rfl 1 rfl)
  by_cases hlt : i < r.2.length
  · have hltz : (i : Int) < (r.2.length : Int) := by omega
    obtain ⟨ad, A1, c1, B1, d1, D1, e1, rfl, q0, q1, q2, q3, hst⟩ := hS.out i hlt
    have hbw := HF.out.bel.trans (HB.out.mono hws)
    have x0 := cell_below hbw q0
    have x1 := cell_below hbw q1
    have x2 := cell_below hbw q2
    have x3 := cell_below hbw q3
    have HIy2 := Lib.hid (HIy.out i hlt)
    have HIn2 := Lib.hid (HIn.out i hlt)
    have hln := Nat.lt_of_le_of_lt (HIl.out i) hlt
    clear q0 q1 q2 q3 hst hbw
    generalize r.2[i] = s at *
    obtain ⟨⟨⟨k, xs⟩, ys⟩, qs⟩ := s
    dsimp only at *
    generalize xs.length = m1 at *
    generalize ys.length = m2 at *
    generalize qs.length = m3 at *

    by_cases hk : k = 1
    · subst hk
      have HS := Lib.hid (HIy2.out rfl)
      clear HIy2 HIn2
      have hal := Lib.hid ((Below.refl _ wr).alloc (Nat.le_refl _) (.cells #[.int .i64 (i : Int)] 3))
      obtain ⟨v', w', hrun, hO', hS2⟩ := pushI (t := 30) (ty := 30) (y := (i : Int)) Tryz.underlying30 (HO.out.below hal.out) (Own.mk (w := wr) [.int .i64 (i : Int)] 3) (by omega) (Nat.le_trans HB.out.size (by simp))
      have HP := Lib.hid hrun
      have HB2 := Lib.hid ((HB.out.trans (hal.out.mono HB.out.size)).trans hS2)
      rw [← HS.out] at hO'
      have HO2 := Lib.hid hO'
      clear hrun hO' hS2 hal HS HO
      go_wp2_with (refine pushL_ rfl rfl rfl rfl HP.out ?_)
      go_roundg (r.2.length - (i + 1))
      case measure => omega
      case rel => exact ⟨i + 1, v', by omega, by go_num, rfl, HO2, HB2⟩
    · have hkb : (k == 1) = false := by simpa using hk
      have HO2 := Lib.hid (show OwnI wr W.heap.size v (inp r.2 (i + 1)) from by rw [HIn2.out hk]; exact HO.out)
      clear HIy2 HIn2 hk HO
      go_wp2
      go_roundg (r.2.length - (i + 1))
      case measure => omega
      case rel => exact ⟨i + 1, v, by omega, by go_num, rfl, HO2, HB.out⟩
  · have hltz : ¬ (i : Int) < (r.2.length : Int) := by omega
    have HO2 := Lib.hid (show OwnI wr w.heap.size v (inp r.2 r.2.length) from by
      have h := HO.out.mono hws
      rwa [show i = r.2.length by omega] at h)
    have HB2 := Lib.hid (HF.out.bel.trans (HB.out.mono hws))
    clear HO HB hS HIy HIn HIl
    go_wp2
    go_ret
    exact ⟨_, rfl, HO2.out, HB2.out⟩

set_option maxHeartbeats 2000000 in
set_option maxRecDepth 100000 in
theorem law_PValid (r : RefD) (A : Option Addr) (c : Nat) (B : Option Addr) (d : Nat) (w : World) (h : RefIn w r A c B d) :
    Calls Tryz.prog 3 #[.agg #[.slice A r.1.length c, .slice B r.2.length d]] w (Decides w true) := by
  have hl := h.lens.2
  have hil := inp_len r.2 r.2.length
  have h1 := Lib.hid (fun (W : World) (hb : Below w.heap.size w W) => pr_Valid r A c B d W (h.below hb))
  have h2 := Lib.hid (fun (W : World) (hb : Below w.heap.size w W) => r24_Valid r A c B d W (h.below hb))
  have h3 := Lib.hid (fun (W : World) (hb : Below w.heap.size w W) => pr_Inputs r A c B d W (h.below hb))
  have h4 := Lib.hid (fun (W : World) (hb : Below w.heap.size w W) => r24_Inputs r A c B d W (h.below hb))
  have h5 := Lib.hid (fun (W : World) (A1 : Option Addr) (c1 : Nat) (B1 : Option Addr) (d1 : Nat) (k1 : (Knd.int .i64).Row W A1 (inp r.2 r.2.length)) (kc : (inp r.2 r.2.length).length ≤ c1) (k2 : (Knd.int .i64).Row W B1 (inp r.2 r.2.length)) (kd : (inp r.2 r.2.length).length ≤ d1) => s24_Ints A1 c1 B1 d1 _ _ W k1 kc k2 kd (by omega) (by omega))
  clear h
  generalize inp r.2 r.2.length = xs at *
  generalize vldN r = vn at *
  generalize vldE r = ve at *
  rw [show decide (xs = xs) = true from decide_eq_true rfl] at h5
  generalize r.1.length = n1 at *
  generalize r.2.length = n2 at *
  have HF := Lib.hid ((Fr.refl w).box [.slice A n1 c, .slice B n2 d] 25)
  simp only [List.toArray] at HF
  go_enter Tryz.func3, Tryz.ntmps3
  go_upto_region 1 with fail
  generalize hgt : World.alloc _ _ = W at HF ⊢
  clear hgt
  have a0 := HF.out.cellN 0 rfl 0 rfl
  have a1 := HF.out.cellN 0 rfl 1 rfl
  go_wp2_with fail
  refine (h1.out _ HF.out.bel).mono ?_
  rintro e' W1 ⟨rfl, hb⟩
  replace HF := Lib.hid (HF.out.below hb)
  clear hb h1 a0 a1
  have a0 := HF.out.cellN 0 rfl 0 rfl
  have a1 := HF.out.cellN 0 rfl 1 rfl
  go_wp2_with fail
  refine (h2.out _ HF.out.bel).mono ?_
  rintro e' W2 ⟨rfl, hb⟩
  replace HF := Lib.hid (HF.out.below hb)
  clear hb h2 a0 a1
  go_upto_region 3 with fail
  have HF_ := Lib.hid HF.out.drew
  clear HF
  have HF := HF_
  clear HF_
  refine start_ (n := 16) (S := fun w' => w'.cell? ⟨w.heap.size, 0, none⟩ = some (.slice A n1 c) ∧ w'.cell? ⟨w.heap.size, 1, none⟩ = some (.slice B n2 d)) (ds := []) #[false, false, false, false, false, false, false, false, false, false, false, false, false, false, false, false] (by kernel_rfl) rfl rfl ⟨HF.out.cellN 0 rfl 0 rfl, HF.out.cellN 0 rfl 1 rfl⟩ (fun hHeld => ?_)
  generalize World.drew _ = W at *
  refine pure_ (i := 0) (N := (some 17)) (v := ?_) (a' := ?_) #[true, false, false, false, false, false, false, false, false, false, false, false, false, false, false, false] rfl rfl (by kernel_rfl) (fun _ _ _ h => h) (Or.inl ⟨by rfl, ?_⟩) ?_ ?_
  rotate_left
  · intro w'
    go_simp
    with_reducible rfl
  rotate_left
  · simp only [Act.put, List.setIfInBounds_toArray, List.set_cons_zero, List.set_cons_succ]
    rfl
  refine pure_ (i := 1) (N := (some 18)) (v := ?_) (a' := ?_) #[true, true, false, false, false, false, false, false, false, false, false, false, false, false, false, false] rfl rfl (by kernel_rfl) (fun _ _ _ h => h) (Or.inl ⟨by rfl, ?_⟩) ?_ ?_
  rotate_left
  · intro w'
    go_simp
    with_reducible rfl
  rotate_left
  · simp only [Act.put, List.setIfInBounds_toArray, List.set_cons_zero, List.set_cons_succ]
    rfl
  refine pure_ (i := 2) (N := (some 19)) (v := ?_) (a' := ?_) #[true, true, true, false, false, false, false, false, false, false, false, false, false, false, false, false] rfl rfl (by kernel_rfl) (fun _ _ _ h => h) (Or.inl ⟨by rfl, ?_⟩) ?_ ?_
  rotate_left
  · intro w'
    go_simp
    with_reducible rfl
  rotate_left
  · simp only [Act.put, List.setIfInBounds_toArray, List.set_cons_zero, List.set_cons_succ]
    rfl
  refine pure_ (i := 3) (N := (some 20)) (v := ?_) (a' := ?_) #[true, true, true, true, false, false, false, false, false, false, false, false, false, false, false, false] rfl rfl (by kernel_rfl) (fun _ _ _ h => h) (Or.inl ⟨by rfl, ?_⟩) ?_ ?_
  rotate_left
  · intro w'
    go_simp
    with_reducible rfl
  rotate_left
  · simp only [Act.put, List.setIfInBounds_toArray, List.set_cons_zero, List.set_cons_succ]
    rfl
  refine pure_ (i := 4) (N := (some 21)) (v := ?_) (a' := ?_) #[true, true, true, true, true, false, false, false, false, false, false, false, false, false, false, false] rfl rfl (by kernel_rfl) (fun _ _ _ h => h) (Or.inl ⟨by rfl, ?_⟩) ?_ ?_
  rotate_left
  · intro w'
    go_simp
    with_reducible rfl
  rotate_left
  · simp only [Act.put, List.setIfInBounds_toArray, List.set_cons_zero, List.set_cons_succ]
    rfl
  refine pure_ (i := 5) (N := (some 22)) (v := ?_) (a' := ?_) #[true, true, true, true, true, true, false, false, false, false, false, false, false, false, false, false] rfl rfl (by kernel_rfl) (fun _ _ _ h => h) (Or.inl ⟨by rfl, ?_⟩) ?_ ?_
  rotate_left
  · intro w'
    go_simp
    with_reducible rfl
  rotate_left
  · simp only [Act.put, List.setIfInBounds_toArray, List.set_cons_zero, List.set_cons_succ]
    rfl
  refine pure_ (i := 6) (N := (some 23)) (v := ?_) (a' := ?_) #[true, true, true, true, true, true, true, false, false, false, false, false, false, false, false, false] rfl rfl (by kernel_rfl) (fun _ _ _ h => h) (Or.inl ⟨by rfl, ?_⟩) ?_ ?_
  rotate_left
  · intro w'
    go_simp
    with_reducible rfl
  rotate_left
  · simp only [Act.put, List.setIfInBounds_toArray, List.set_cons_zero, List.set_cons_succ]
    rfl
  refine pure_ (i := 7) (N := (some 24)) (v := ?_) (a' := ?_) #[true, true, true, true, true, true, true, true, false, false, false, false, false, false, false, false] rfl rfl (by kernel_rfl) (fun _ _ _ h => h) (Or.inl ⟨by rfl, ?_⟩) ?_ ?_
  rotate_left
  · intro w'
    go_simp
    with_reducible rfl
  rotate_left
  · simp only [Act.put, List.setIfInBounds_toArray, List.set_cons_zero, List.set_cons_succ]
    rfl
  refine pure_ (i := 8) (N := (some 25)) (v := ?_) (a' := ?_) #[true, true, true, true, true, true, true, true, true, false, false, false, false, false, false, false] rfl rfl (by kernel_rfl) (fun _ _ _ h => h) (Or.inl ⟨by rfl, ?_⟩) ?_ ?_
  rotate_left
  · intro w'
    go_simp
    with_reducible rfl
  rotate_left
  · simp only [Act.put, List.setIfInBounds_toArray, List.set_cons_zero, List.set_cons_succ]
    rfl
  refine take_ (i := 9) (N := (some 26)) (v := ?_) (a' := ?_) #[true, true, true, true, true, true, true, true, true, true, false, false, false, false, false, false] rfl rfl (by kernel_rfl) (fun _ _ _ h => h) (Or.inl ⟨by rfl, ?_⟩) hHeld ?_ ?_
  rotate_left
  · rintro w' ⟨s0, s1⟩
    go_simp
    with_reducible rfl
  rotate_left
  · simp only [Act.put, List.setIfInBounds_toArray, List.set_cons_zero, List.set_cons_succ]
    rfl
  refine take_ (i := 11) (N := (some 28)) (v := ?_) (a' := ?_) #[true, true, true, true, true, true, true, true, true, true, false, true, false, false, false, false] rfl rfl (by kernel_rfl) (fun _ _ _ h => h) (Or.inl ⟨by rfl, ?_⟩) hHeld ?_ ?_
  rotate_left
  · rintro w' ⟨s0, s1⟩
    go_simp
    with_reducible rfl
  rotate_left
  · simp only [Act.put, List.setIfInBounds_toArray, List.set_cons_zero, List.set_cons_succ]
    rfl
  refine one_ (i := 10) (N := (some 27)) #[true, true, true, true, true, true, true, true, true, true, true, true, false, false, false, false] rfl rfl (by kernel_rfl) (by decide) (fun K hK => ?_)
  refine goes_ Tryz.func8 (by kernel_rfl) rfl #[.agg #[.slice A n1 c, .slice B n2 d]] (by rfl) rfl rfl (by (try simp only [List.map_toArray, List.map_cons, List.map_nil]); first | done | rfl) ?_
  refine (h3.out W HF.out.bel).mono ?_
  rintro e W1 ⟨v1, rfl, q1, q2⟩
  refine ⟨_, rfl, ?_⟩
  obtain ⟨A1, c1, rfl, qc, qr⟩ := q1.row
  replace HF := Lib.hid (HF.out.below q2)
  have R1 := Lib.hid (And.intro qr qc)
  clear q1 q2 h3 qc qr
  refine hK.out _ _ ⟨HF.out.cellN 0 rfl 0 rfl, HF.out.cellN 0 rfl 1 rfl⟩ (fun hHeld => ?_)
  clear hK K
  refine norm_ (a' := ?_) ?_ ?_
  rotate_left
  · show Act.put _ (some 27) _ = _
    simp only [Act.put, List.setIfInBounds_toArray, List.set_cons_zero, List.set_cons_succ]
    rfl
  refine one_ (i := 12) (N := (some 29)) #[true, true, true, true, true, true, true, true, true, true, true, true, true, false, false, false] rfl rfl (by kernel_rfl) (by decide) (fun K hK => ?_)
  refine goes_ Tryz.func9 (by kernel_rfl) rfl #[.agg #[.slice A n1 c, .slice B n2 d]] (by rfl) rfl rfl (by (try simp only [List.map_toArray, List.map_cons, List.map_nil]); first | done | rfl) ?_
  refine (h4.out W1 HF.out.bel).mono ?_
  rintro e W2 ⟨v2, rfl, q1, q2⟩
  refine ⟨_, rfl, ?_⟩
  obtain ⟨A2, c2, rfl, qc, qr⟩ := q1.row
  replace HF := Lib.hid (HF.out.below q2)
  replace R1 := Lib.hid (And.intro (R1.out.1.below q2) R1.out.2)
  have R2 := Lib.hid (And.intro qr qc)
  clear q1 q2 h4 qc qr
  refine hK.out _ _ ⟨HF.out.cellN 0 rfl 0 rfl, HF.out.cellN 0 rfl 1 rfl⟩ (fun hHeld => ?_)
  clear hK K
  refine norm_ (a' := ?_) ?_ ?_
  rotate_left
  · show Act.put _ (some 29) _ = _
    simp only [Act.put, List.setIfInBounds_toArray, List.set_cons_zero, List.set_cons_succ]
    rfl
  refine one_ (i := 13) (N := (some 30)) #[true, true, true, true, true, true, true, true, true, true, true, true, true, true, false, false] rfl rfl (by kernel_rfl) (by decide) (fun K hK => ?_)
  refine goes_ Tryz.func7 (by kernel_rfl) rfl #[.slice A1 xs.length c1, .slice A2 xs.length c2] (by rfl) rfl rfl (by (try simp only [List.map_toArray, List.map_cons, List.map_nil]); first | done | rfl) ?_
  refine (h5.out W2 A1 c1 A2 c2 R1.out.1 R1.out.2 R2.out.1 R2.out.2).mono ?_
  rintro e W3 ⟨rfl, q2⟩
  refine ⟨_, rfl, ?_⟩
  replace HF := Lib.hid (HF.out.below q2)
  clear q2 h5 R1 R2
  refine hK.out _ _ ⟨HF.out.cellN 0 rfl 0 rfl, HF.out.cellN 0 rfl 1 rfl⟩ (fun hHeld => ?_)
  clear hK K
  refine norm_ (a' := ?_) ?_ ?_
  rotate_left
  · show Act.put _ (some 30) _ = _
    simp only [Act.put, List.setIfInBounds_toArray, List.set_cons_zero, List.set_cons_succ]
    rfl
  refine pure_ (i := 14) (N := (some 31)) (v := ?_) (a' := ?_) #[true, true, true, true, true, true, true, true, true, true, true, true, true, true, true, false] rfl rfl (by kernel_rfl) (fun _ _ _ h => h) (Or.inl ⟨by rfl, ?_⟩) ?_ ?_
  rotate_left
  · intro w'
    go_simp
    with_reducible rfl
  rotate_left
  · simp only [Act.put, List.setIfInBounds_toArray, List.set_cons_zero, List.set_cons_succ]
    rfl
  refine pure_ (i := 15) (N := (some 2)) (v := ?_) (a' := ?_) #[true, true, true, true, true, true, true, true, true, true, true, true, true, true, true, true] rfl rfl (by kernel_rfl) (fun _ _ _ h => h) (Or.inl ⟨by rfl, ?_⟩) ?_ ?_
  rotate_left
  · intro w'
    go_simp
    with_reducible rfl
  rotate_left
  · simp only [Act.put, List.setIfInBounds_toArray, List.set_cons_zero, List.set_cons_succ]
    rfl
  refine done_ (by kernel_rfl) ?_
  go_wp2
  go_ret
  exact ⟨rfl, HF.out.bel⟩
end Go.Proofs.YtidgpkccjcddgaaGreat.F
/- ProofValid: the row. Condition: what it reads is of bulk at most 1048576. -/
set_option linter.unusedVariables false
set_option linter.unusedSimpArgs false
namespace Go.Proofs.YtidgpkccjcddgaaGreat.pvalid
open Go.ChangeShapes Go.WideShapes Go.ChangeAt Go.RowKit
open Go.Proofs.YtidgpkccjcddgaaGreat.F

set_option maxRecDepth 100000 in
theorem contract (H : Type) (enc : TypeId × Value → H) (W : World) (base : Nat) (args : Array Value) (ds gs : List (DataW H)) (before : List MemPlace)
    (hval : ∀ (j : Nat) t v, Tryz.f3.params[j]? = some t → args[j]? = some v → Value.okWide Tryz.prog W .any base t v)
    (hW : DataW.Whole enc Tryz.prog Tryz.f3.params.toList Rows.proofValidSpec.vars false W args.toList ds gs before) (hk : Rows.uptoSmall H (ds ++ gs) = true) :
    Calls Tryz.prog 3 args W fun e W' => ∃ v, e = .returned v ∧ Rows.proofValidSpec.post enc Tryz.prog Tryz.f3 false true false false W args v W' := by
  have hW' := hW
  obtain ⟨p, q, hA0, hV, rfl, hfz, hnd⟩ := hW
  have hA : DataW.TrodAll enc Tryz.prog W 0 (fun _ => true) true Tryz.f3.params.toList args.toList ds p := hA0
  rw [Tryz.params3] at hA hval
  obtain ⟨v0, vs0, d0, ds0, p0, q0, hargs, rfl, rfl, h0, r0⟩ := trodAll_cons hA
  obtain ⟨rfl, rfl, rfl⟩ := trodAll_nil r0
  obtain rfl : args = #[v0] := by cases args; simp_all
  obtain ⟨rfl, rfl⟩ := trodVars_none hV
  obtain ⟨cs0, rfl, hz0⟩ := okWide_struct Tryz.underlying25 (hval 0 25 v0 rfl rfl)
  have k0 := h0
  have lt0 : ∀ x ∈ p0, x.block < W.heap.size := by obtain ⟨m, hm⟩ := k0; exact DataW.trod_lt m _ _ _ hm
  obtain ⟨m0, g0⟩ := h0
  obtain ⟨r, hC0, ok0⟩ := opens_Refutation H enc W m0 _ _ g0
  have hb : Rows.uptoBulkAll (H := H) [d0] ≤ 1048576 := by
    have h2 := of_decide_eq_true hk
    simpa only [List.append_nil] using h2
  simp only [Rows.uptoBulkAll] at hb
  obtain ⟨A0, c0, B0, d0', e0, hR⟩ := refIn_of hC0 ok0 (by simpa [Rows.uptoBulkAll] using hb)
  simp only [Value.cells] at e0
  obtain rfl : cs0 = #[.slice A0 r.1.length c0, .slice B0 r.2.length d0'] := by cases cs0; simp_all
  have hlaw := law_PValid r A0 c0 B0 d0' W hR
  refine hlaw.mono fun e W' ⟨he, bel⟩ => ?_
  subst he
  exact ⟨_, rfl, _, _, _, [], _, [], hW', trodAll_mk1 (shut_bool Tryz.underlying4 _), (trodAll_cons_mk (Below.trod prog_laid (by kernel_rfl) (of_decide_eq_true (by kernel_rfl)) k0 bel lt0) trodAll_mk0), rfl, bel.frame _, fun h => by cases h⟩

set_option maxRecDepth 100000 in
theorem lifted (os : Os) (started : os.Started) (H : Type) (enc : TypeId × Value → H) (F : Stop.Interp) :
    ReturnsInHanded {} Tryz.checked os 3 .any ((Rows.OpenSpec.upto Rows.proofValidSpec).pre6 enc Tryz.prog Tryz.f3 Rows.proofValidUptoRow.domain false) (((Rows.OpenSpec.upto Rows.proofValidSpec).at F).post enc Tryz.prog Tryz.f3 false true false false) := by
  refine returnsInHanded_of_cond (C := Tryz.checked) (s := Rows.OpenSpec.upto Rows.proofValidSpec) (k := Rows.uptoSmall) rfl prog_own started (by kernel_rfl) Tryz.func3
    (OpenSpec.witness (enc := enc) (C := Tryz.checked) (s := Rows.OpenSpec.upto Rows.proofValidSpec) (k := Rows.uptoSmall) rfl false ⟨#[], #[.agg #[.slice none 0 0, .slice none 0 0]], []⟩ 8 (by kernel_rfl) (by kernel_rfl) (by kernel_rfl)
      (x := ([.agg [.nil, .nil]], [], [])) (by kernel_rfl) rfl (by kernel_rfl)) ?_
  intro W base args ds gs before hval hW _ hk _
  exact contract H enc W base args ds gs before hval hW hk

theorem over : Rows.ProofValidUptoSaid :=
  OpenClaim.holds_of_cond 3 Tryz.f3 rfl rfl rfl rfl rfl rfl rfl ⟨rfl, rfl, rfl, rfl, rfl⟩ rfl rfl rfl rfl rfl (by kernel_rfl) Tryz.func3 (by kernel_rfl)
    (of_decide_eq_true (by kernel_rfl)) (by unfold Func.isWrapper; first | (rw [if_pos (by decide +kernel)]; kernel_rfl) | (rw [if_neg (by decide +kernel)]; exact ⟨rfl, rfl⟩))
    (fun os started H enc _ F => lifted os started H enc F)
end Go.Proofs.YtidgpkccjcddgaaGreat.pvalid
namespace Go.Proofs.YtidgpkccjcddgaaGreat
theorem proofValid_holds : Rows.ProofValidUptoSaid := pvalid.over
#print axioms proofValid_holds
end Go.Proofs.YtidgpkccjcddgaaGreat

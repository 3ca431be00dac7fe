/- One part of a form's text is read: package linear's part. Condition: a text of at most 67108864 bytes; the tables lie in blocks 0 to 3. -/
import Derived.Test.YtidgpkccjcddgaaGreatDoorGp
import Derived.Test.YtidgpkccjcddgaaGreatDoorGn
import Derived.Deep.Cut
import Derived.Shelf.Vars
import Derived.Stop.LaidErr
import Derived.LaidLaws
set_option linter.unusedVariables false
set_option linter.unusedSimpArgs false
namespace Go.Proofs.YtidgpkccjcddgaaGreatDoor.F
open Go.RowKit Go.Shelf Go.Proofs.YtidgpkccjcddgaaGreatDoorW.PrintLast

def inr (v : Int) : Prop := -9223372036854775808 ≤ v ∧ v ≤ 9223372036854775807
theorem below_bytes (w : World) (e : TypeId) (s : ByteArray) : Below w.heap.size w (Lib.bytesWorld w e s) :=
  ⟨rfl, rfl, rfl, by rw [Lib.bytesWorld_size]; omega, fun k hk => Lib.bytesWorld_at_old w e s k hk⟩
theorem atoi_l (l : List UInt8) (w : World) (hl : l.length ≤ 4000000000) (hL : Laid w) :
    Calls Tryz.prog 118 #[.string ⟨l.toArray⟩] w fun e w' => ∃ v err, e = .returned (.tuple #[.int .i64 v, err]) ∧ Below w.heap.size w w' ∧ ((Lib.atoiAll l = .ok v ∧ err = .nilIface) ∨ ((∀ v, Lib.atoiAll l ≠ .ok v) ∧ ∃ t p, err = .iface t (.pointer (some p)))) := by
  have hsz : (⟨l.toArray⟩ : ByteArray).size = l.length := by show l.toArray.size = _; simp
  obtain ⟨e1, h1, h1'⟩ := hL.sy
  obtain ⟨e2, h2, h2'⟩ := hL.rg
  cases h : Lib.atoiAll l
  · rename_i v
    refine (strconv_Atoi_ok ⟨l.toArray⟩ (by rw [hsz]; omega) v h w).mono ?_
    rintro e w' ⟨rfl, hw⟩
    refine ⟨v, .nilIface, rfl, ?_, .inl ⟨rfl, rfl⟩⟩
    rcases hw with rfl | ⟨t, rfl⟩
    · exact Below.refl _ _
    · exact below_bytes _ _ _
  · refine (Any.strconv_Atoi_syntax laysC172 ⟨l.toArray⟩ (by rw [hsz]; omega) h e1 w h1 h1').mono ?_
    rintro e w' ⟨N, rfl, _, _, hb⟩
    exact ⟨_, _, rfl, hb, .inr ⟨fun v => by simp, _, _, rfl⟩⟩
  · refine (strconv_Atoi_range ⟨l.toArray⟩ (by rw [hsz]; omega) h e2 w h2 h2').mono ?_
    rintro e w' ⟨N, rfl, _, _, hb⟩
    exact ⟨_, _, rfl, hb, .inr ⟨fun v => by simp, _, _, rfl⟩⟩

def szq (q : Rat) : Nat := (dg q.num.natAbs).length + (dg q.den).length
/-- what a reader of a part answers -/
def ToldPt (w : World) (s : List UInt8) (e : Ending) (w' : World) : Prop :=
  (∃ r : MC, e = .returned (.tuple #[.agg r.cells.toArray, .bool true]) ∧ r.At w' ∧ inr r.v ∧ szq r.q ≤ 2 * s.length + 4 ∧ Below w.heap.size w w' ∧ ∀ m : Int × Rat, inr m.1 → s = tt m → r.vq = m) ∨
  (∃ v b A n c B m d, e = .returned (.tuple #[.agg #[.int .i64 v, .bool b, .slice A n c, .slice B m d], .bool false]) ∧ Below w.heap.size w w' ∧ ∀ m : Int × Rat, inr m.1 → s ≠ tt m)
theorem put4_end {w W : World} {bs : List (Nat × List Value)} {g : Nat} {x1 x2 x3 x4 : Value} (h : Fr w W ((g, [x1, x2, x3, x4]) :: bs)) (hg : w.heap.size ≤ g) (hn : NoU [x1, x2, x3, x4]) (y1 y2 y3 y4 : Value) (hm : NoU [y1, y2, y3]) {W' : World}
    (hW : W' = (((W.setCell ⟨g, 0, none⟩ y1).setCell ⟨g, 1, none⟩ y2).setCell ⟨g, 2, none⟩ y3).setCell ⟨g, 3, none⟩ y4) :
    Below w.heap.size w W' ∧ Own W' g [y1, y2, y3, y4] ∧ KeepU W W' := by
  subst hW
  have ho := h.own (List.mem_cons_self ..)
  exact ⟨(((h.1.setCell hg _).setCell hg _).setCell hg _).setCell hg _, (((ho.set 0 _).set 1 _).set 2 _).set 3 _, KeepU.put4 ho hn hm y4⟩
theorem Fr.swap {w W : World} {a b : Nat × List Value} {bs : List (Nat × List Value)} (h : Fr w W (a :: b :: bs)) : Fr w W (b :: a :: bs) := ⟨h.1, fun p hp => h.2 p (by simp only [List.mem_cons] at hp ⊢; rcases hp with h | h | h <;> simp [h])⟩

set_option maxHeartbeats 8000000 in
set_option maxRecDepth 100000 in
theorem linear_part (s : List UInt8) (w : World) (hs : s.length ≤ 67108864) (hL : Laid w) :
    Calls Tryz.prog 56 #[.string ⟨s.toArray⟩] w (ToldPt w s) := by
  have HF := Lib.hid ((Fr.refl w).box [.int .i64 0, .bool false, .slice none 0 0, .slice none 0 0] 57)
  have HL := Lib.hid (hL.below HF.out.bel)
  have hC := fun (W : World) (k : Laid W) => cut_l s [42, 120] W (by omega) k
  have hcl := cut_len s [42, 120]
  have hc0 : ∀ m : Int × Rat, s = tt m → Lib.cut s [42, 120] = (tq m.2, Lib.itoa m.1, true) := fun m h => by subst h; exact cut_tt m
  clear hL
  generalize Lib.cut s [42, 120] = ct at *
  obtain ⟨a, b, ok⟩ := ct
  dsimp only at hC hcl
  have HC := Lib.hid hC
  have HC0 := Lib.hid hc0
  clear hC hc0
  have hR := Lib.hid (fun (W : World) (k : Laid W) => ratio_Parse a W (by omega) k)
  have hA := Lib.hid (fun (W : World) (k : Laid W) => atoi_l b W (by omega) k)
  go_enter Tryz.func56, Tryz.ntmps56
  go_wp2_with fail
  refine (HC.out _ HL.out).mono ?_
  rintro e W1 ⟨rfl, q1⟩
  replace HF := Lib.hid (HF.out.below q1)
  replace HL := Lib.hid (HL.out.below q1)
  clear q1 HC
  go_wp2_with fail
  refine (hR.out _ HL.out).mono ?_
  rintro e W2 (⟨q, A1, c1, B1, d1, rfl, q1, hq, q2, hx⟩ | ⟨rfl, q2, hx⟩)
  · replace HF := Lib.hid (HF.out.below q2)
    replace HL := Lib.hid (HL.out.below q2)
    have HX := Lib.hid hx
    have hlt2 : w.heap.size < W2.heap.size := HF.out.ltN 0 rfl
    have hal := Lib.hid ((Below.refl _ W2).alloc (Nat.le_refl _) (.cells #[.bool (decide (q.num < 0)), .slice A1 (dg q.num.natAbs).length c1, .slice B1 (dg q.den).length d1] 43))
    replace HF := Lib.hid (HF.out.box [.bool (decide (q.num < 0)), .slice A1 (dg q.num.natAbs).length c1, .slice B1 (dg q.den).length d1] 43)
    replace HL := Lib.hid (HL.out.below hal.out)
    have HQ := Lib.hid (q1.below hal.out)
    have HSz := Lib.hid (show szq q ≤ 2 * s.length + 4 ∧ QL q from ⟨by unfold szq; omega, by omega, by omega⟩)
    have hgw : w.heap.size < W2.heap.size := hlt2
    clear q1 q2 hx hal hR hq
    generalize hg2 : W2.heap.size = g2 at *
    generalize hqb : decide (q.num < 0) = qb at *
    generalize hqn : (dg q.num.natAbs).length = qn at *
    generalize hqd : (dg q.den).length = qd at *
    go_wp2_with fail
    refine (hA.out _ HL.out).mono ?_
    rintro e W3 ⟨v, err, rfl, q3, hv⟩
    replace HF := Lib.hid (HF.out.below q3)
    replace HQ := Lib.hid (HQ.out.below q3)
    clear q3 hA HL
    cases ok with
    | true =>
      rcases hv with ⟨hv, rfl⟩ | ⟨hv, t, p, rfl⟩
      · have hvb := Lib.hid (Lib.atoiAll_bounds hv)
        have HM := Lib.hid (show ∀ m : Int × Rat, inr m.1 → s = tt m → (v, q) = m from fun m hm h => by
          have h1 := HC0.out m h
          simp only [Prod.mk.injEq, and_true] at h1
          have h2 := HX.out m.2 h1.1
          rw [h1.2, atoi_itoa hm.1 hm.2] at hv
          simp only [Lib.NumEnd.ok.injEq] at hv
          exact Prod.ext hv.symm h2)
        clear hv HX HC0
        have hf0 := HF.out.frozenN 1 rfl 0
        have hf1 := HF.out.frozenN 1 rfl 1
        have hf2 := HF.out.frozenN 1 rfl 2
        have hf3 := HF.out.frozenN 1 rfl 3
        have hd0 := HF.out.cellN 1 rfl 0 rfl
        have hd1 := HF.out.cellN 1 rfl 1 rfl
        have hd2 := HF.out.cellN 1 rfl 2 rfl
        have hd3 := HF.out.cellN 1 rfl 3 rfl
        have hr0 := HF.out.cellN 0 rfl 0 rfl
        have hr1 := HF.out.cellN 0 rfl 1 rfl
        have hr2 := HF.out.cellN 0 rfl 2 rfl
        have HE := Lib.hid (put4_end HF.out.swap (Nat.le_refl _) (by intro y hy; simp at hy) (.int .i64 v) (.bool qb) (.slice A1 qn c1) (.slice B1 qd d1) (by intro y hy; simp at hy) rfl)
        clear HF
        go_wp2_with (go_region)
        subst hqb hqn hqd
        exact post_ownU HE.out.2.1 rfl rfl rfl Tryz.underlying57 rfl (by kernel_rfl) (.inl ⟨⟨v, q, A1, c1, B1, d1⟩, rfl, ⟨(HQ.out.keep HE.out.2.2).below (Below.drew (Below.refl _ _)), HSz.out.2⟩, hvb.out, HSz.out.1, Below.drew HE.out.1, HM.out⟩)
      · have HM := Lib.hid (show ∀ m : Int × Rat, inr m.1 → s ≠ tt m from fun m hm h => by
          have h1 := HC0.out m h
          simp only [Prod.mk.injEq, and_true] at h1
          exact hv m.1 (by rw [h1.2]; exact atoi_itoa hm.1 hm.2))
        clear hv HX HC0 HQ HSz
        have hf0 := HF.out.frozenN 1 rfl 0
        have hf1 := HF.out.frozenN 1 rfl 1
        have hf2 := HF.out.frozenN 1 rfl 2
        have hf3 := HF.out.frozenN 1 rfl 3
        have hd0 := HF.out.cellN 1 rfl 0 rfl
        have hd1 := HF.out.cellN 1 rfl 1 rfl
        have hd2 := HF.out.cellN 1 rfl 2 rfl
        have hd3 := HF.out.cellN 1 rfl 3 rfl
        have hr0 := HF.out.cellN 0 rfl 0 rfl
        have hr1 := HF.out.cellN 0 rfl 1 rfl
        have hr2 := HF.out.cellN 0 rfl 2 rfl
        have HE := Lib.hid (put4_end HF.out.swap (Nat.le_refl _) (by intro y hy; simp at hy) (.int .i64 v) (.bool qb) (.slice A1 qn c1) (.slice B1 qd d1) (by intro y hy; simp at hy) rfl)
        clear HF
        go_wp2_with (go_region)
        exact post_ownU HE.out.2.1 rfl rfl rfl Tryz.underlying57 rfl (by kernel_rfl) (.inr ⟨_, _, _, _, _, _, _, _, rfl, Below.drew HE.out.1, HM.out⟩)
    | false =>
      have HM := Lib.hid (show ∀ m : Int × Rat, inr m.1 → s ≠ tt m from fun m hm h => by
        have h1 := HC0.out m h
        simp only [Prod.mk.injEq] at h1
        exact absurd h1.2.2 (by decide))
      clear hv HX HC0 HQ HSz
      have hf0 := HF.out.frozenN 1 rfl 0
      have hf1 := HF.out.frozenN 1 rfl 1
      have hf2 := HF.out.frozenN 1 rfl 2
      have hf3 := HF.out.frozenN 1 rfl 3
      have hd0 := HF.out.cellN 1 rfl 0 rfl
      have hd1 := HF.out.cellN 1 rfl 1 rfl
      have hd2 := HF.out.cellN 1 rfl 2 rfl
      have hd3 := HF.out.cellN 1 rfl 3 rfl
      have hr0 := HF.out.cellN 0 rfl 0 rfl
      have hr1 := HF.out.cellN 0 rfl 1 rfl
      have hr2 := HF.out.cellN 0 rfl 2 rfl
      have HE := Lib.hid (put4_end HF.out.swap (Nat.le_refl _) (by intro y hy; simp at hy) (.int .i64 v) (.bool qb) (.slice A1 qn c1) (.slice B1 qd d1) (by intro y hy; simp at hy) rfl)
      clear HF
      go_wp2_with (go_region)
      exact post_ownU HE.out.2.1 rfl rfl rfl Tryz.underlying57 rfl (by kernel_rfl) (.inr ⟨_, _, _, _, _, _, _, _, rfl, Below.drew HE.out.1, HM.out⟩)
  · replace HF := Lib.hid (HF.out.below q2)
    replace HL := Lib.hid (HL.out.below q2)
    have HM := Lib.hid (show ∀ m : Int × Rat, inr m.1 → s ≠ tt m from fun m hm h => by
      have h1 := HC0.out m h
      simp only [Prod.mk.injEq] at h1
      exact hx m.2 h1.1)
    have hlt2 : w.heap.size < W2.heap.size := HF.out.ltN 0 rfl
    have hal := Lib.hid ((Below.refl _ W2).alloc (Nat.le_refl _) (.cells #[.bool false, .slice none 0 0, .slice none 0 0] 43))
    replace HF := Lib.hid (HF.out.box [.bool false, .slice none 0 0, .slice none 0 0] 43)
    replace HL := Lib.hid (HL.out.below hal.out)
    have hgw : w.heap.size < W2.heap.size := hlt2
    clear q2 hx hal hR HC0
    generalize hg2 : W2.heap.size = g2 at *
    go_wp2_with fail
    refine (hA.out _ HL.out).mono ?_
    rintro e W3 ⟨v, err, rfl, q3, hv⟩
    replace HF := Lib.hid (HF.out.below q3)
    clear q3 hA HL hv
    cases ok with
    | true =>
      have hf0 := HF.out.frozenN 1 rfl 0
      have hf1 := HF.out.frozenN 1 rfl 1
      have hf2 := HF.out.frozenN 1 rfl 2
      have hf3 := HF.out.frozenN 1 rfl 3
      have hd0 := HF.out.cellN 1 rfl 0 rfl
      have hd1 := HF.out.cellN 1 rfl 1 rfl
      have hd2 := HF.out.cellN 1 rfl 2 rfl
      have hd3 := HF.out.cellN 1 rfl 3 rfl
      have hr0 := HF.out.cellN 0 rfl 0 rfl
      have hr1 := HF.out.cellN 0 rfl 1 rfl
      have hr2 := HF.out.cellN 0 rfl 2 rfl
      have HE := Lib.hid (put4_end HF.out.swap (Nat.le_refl _) (by intro y hy; simp at hy) (.int .i64 v) (.bool false) (.slice none 0 0) (.slice none 0 0) (by intro y hy; simp at hy) rfl)
      clear HF
      go_wp2_with (go_region)
      exact post_ownU HE.out.2.1 rfl rfl rfl Tryz.underlying57 rfl (by kernel_rfl) (.inr ⟨_, _, _, _, _, _, _, _, rfl, Below.drew HE.out.1, HM.out⟩)
    | false =>
      have hf0 := HF.out.frozenN 1 rfl 0
      have hf1 := HF.out.frozenN 1 rfl 1
      have hf2 := HF.out.frozenN 1 rfl 2
      have hf3 := HF.out.frozenN 1 rfl 3
      have hd0 := HF.out.cellN 1 rfl 0 rfl
      have hd1 := HF.out.cellN 1 rfl 1 rfl
      have hd2 := HF.out.cellN 1 rfl 2 rfl
      have hd3 := HF.out.cellN 1 rfl 3 rfl
      have hr0 := HF.out.cellN 0 rfl 0 rfl
      have hr1 := HF.out.cellN 0 rfl 1 rfl
      have hr2 := HF.out.cellN 0 rfl 2 rfl
      have HE := Lib.hid (put4_end HF.out.swap (Nat.le_refl _) (by intro y hy; simp at hy) (.int .i64 v) (.bool false) (.slice none 0 0) (.slice none 0 0) (by intro y hy; simp at hy) rfl)
      clear HF
      go_wp2_with (go_region)
      exact post_ownU HE.out.2.1 rfl rfl rfl Tryz.underlying57 rfl (by kernel_rfl) (.inr ⟨_, _, _, _, _, _, _, _, rfl, Below.drew HE.out.1, HM.out⟩)
end Go.Proofs.YtidgpkccjcddgaaGreatDoor.F
/- Sizes of texts of forms, and of what is read of a text; plain law. No condition. -/
set_option linter.unusedVariables false
set_option linter.unusedSimpArgs false
namespace Go.Proofs.YtidgpkccjcddgaaGreatDoor.F
open Go.RowKit Go.Shelf

structure CanF (l : Frm) : Prop where
  nf : Nf l
  var : ∀ m ∈ l, inr m.1
theorem CanF.nil : CanF [] := ⟨Nf.nil, fun m h => by cases h⟩
theorem mem_ins' {v : Int} {q : Rat} {m : Int × Rat} : ∀ {l : Frm}, m ∈ ins v q l → m.1 = v ∨ ∃ x ∈ l, x.1 = m.1
  | [], h => by
    simp only [ins] at h
    split at h
    · cases h
    · rw [List.mem_singleton.1 h]; exact .inl rfl
  | a :: r, h => by
    simp only [ins] at h
    split at h
    · split at h
      · exact .inr ⟨m, h, rfl⟩
      · rcases List.mem_cons.1 h with rfl | h
        · exact .inl rfl
        · exact .inr ⟨m, h, rfl⟩
    · split at h
      · split at h
        · exact .inr ⟨m, List.mem_cons_of_mem _ h, rfl⟩
        · rcases List.mem_cons.1 h with rfl | h
          · exact .inl rfl
          · exact .inr ⟨m, List.mem_cons_of_mem _ h, rfl⟩
      · rcases List.mem_cons.1 h with rfl | h
        · exact .inr ⟨_, List.mem_cons_self, rfl⟩
        · rcases mem_ins' h with h | ⟨x, hx, e⟩
          · exact .inl h
          · exact .inr ⟨x, List.mem_cons_of_mem _ hx, e⟩
theorem mem_nform' {m : Int × Rat} : ∀ {f : Frm}, m ∈ nform f → ∃ x ∈ f, x.1 = m.1
  | [], h => by cases h
  | a :: r, h => by
    rcases mem_ins' (show m ∈ ins a.1 a.2 (nform r) from h) with e | ⟨x, hx, e⟩
    · exact ⟨a, List.mem_cons_self, e.symm⟩
    · obtain ⟨y, hy, e2⟩ := mem_nform' hx
      exact ⟨y, List.mem_cons_of_mem _ hy, e2.trans e⟩
theorem CanF.of {f : Frm} (h : ∀ m ∈ f, inr m.1) : CanF (nform f) := ⟨nform_Nf f, fun m hm => by
  obtain ⟨x, hx, e⟩ := mem_nform' hm
  rw [← e]; exact h x hx⟩
theorem mf_len' (l : Frm) : l.length ≤ mf l := by
  induction l with
  | nil => exact Nat.zero_le _
  | cons m r ih => rw [mf_cons, List.length_cons]; omega
theorem mf_mem' {l : Frm} {m : Int × Rat} (h : m ∈ l) : mu m.2 + 1 ≤ mf l := by
  induction l with
  | nil => cases h
  | cons a r ih =>
    rw [mf_cons]
    rcases List.mem_cons.1 h with rfl | h
    · omega
    · have := ih h; omega
theorem tq_len (q : Rat) : (tq q).length ≤ 20 * mu q + 4 := by
  obtain ⟨h1, h2⟩ := mu_len q
  have h3 := dg_texts h1
  have h4 := dg_texts h2
  have h5 := itoa_len q.num
  unfold tq
  rw [List.length_append]
  split
  · rw [List.length_nil]; omega
  · rw [List.length_cons]; omega
theorem itoa_len21 {v : Int} (h : inr v) : (Lib.itoa v).length ≤ 22 := by
  have h2 : (dg v.natAbs).length ≤ 2 := dg_length_le (by show _ < (4294967296 : Int) ^ 2; unfold inr at h; omega)
  have h3 := dg_texts h2
  have h5 := itoa_len v
  omega
theorem tt_len {m : Int × Rat} (h : inr m.1) : (tt m).length + 1 ≤ 20 * (mu m.2) + 29 := by
  have h1 := tq_len m.2
  have h2 := itoa_len21 h
  unfold tt
  rw [List.length_append, List.length_cons, List.length_cons]
  omega
theorem join_sum (c : UInt8) : ∀ l : List (List UInt8), (joinC c l).length ≤ (l.map fun x => x.length + 1).sum
  | [] => Nat.le_refl _
  | [x] => by simp [joinC]
  | x :: y :: r => by
    have ih := join_sum c (y :: r)
    rw [joinC_cons c (by simp), List.length_append, List.length_cons, List.map_cons, List.sum_cons]
    omega
theorem join_mf {l : Frm} (h : ∀ m ∈ l, inr m.1) : (joinC 43 (l.map tt)).length ≤ 48 * mf l := by
  refine Nat.le_trans (join_sum _ _) ?_
  induction l with
  | nil => exact Nat.zero_le _
  | cons m r ih =>
    have h1 := tt_len (h m List.mem_cons_self)
    have h2 := ih fun x hx => h x (List.mem_cons_of_mem _ hx)
    have h3 := mu_pos m.2
    rw [mf_cons]
    simp only [List.map_cons, List.sum_cons] at h2 ⊢
    omega
theorem TxOk.of {l : Frm} (h : ∀ m ∈ l, inr m.1) (hs : mf l ≤ 549755813) : TxOk l where
  var := fun m hm => h m hm
  num := fun m hm => by
    have h1 := mf_mem' hm
    obtain ⟨h2, h3⟩ := mu_len m.2
    exact ⟨by omega, by omega⟩
  len := by have := join_mf h; omega
  few := by have := mf_len' l; omega
theorem tf_len {l : Frm} (h : ∀ m ∈ l, inr m.1) : (tf l).length ≤ 48 * mf l + 1 := by
  unfold tf
  split
  · simp
  · have := join_mf h; omega
theorem mu_szq (q : Rat) : mu q ≤ szq q + 1 := by
  refine mu_le.2 ?_
  unfold Sz szq
  have h1 := dg_lt q.num.natAbs
  have h2 := dg_lt q.den
  have h3 : Bp (dg q.num.natAbs).length ≤ Bp ((dg q.num.natAbs).length + (dg q.den).length) := Bp_le (by omega)
  have h4 : Bp (dg q.den).length ≤ Bp ((dg q.num.natAbs).length + (dg q.den).length) := Bp_le (by omega)
  have h5 : Bp ((dg q.num.natAbs).length + (dg q.den).length + 1) = 4294967296 * Bp ((dg q.num.natAbs).length + (dg q.den).length) := Bp_succ _
  omega
/-- what the parts of a text may weigh -/
def cost (xs : List (List UInt8)) : Nat := (xs.map fun x => 2 * x.length + 6).sum
theorem cost_take (xs : List (List UInt8)) (i : Nat) (h : i < xs.length) : cost (xs.take (i + 1)) = cost (xs.take i) + (2 * xs[i].length + 6) := by
  unfold cost
  rw [List.take_succ_eq_append_getElem h, List.map_append, List.sum_append]
  simp
theorem cost_glue (b : UInt8) {l : List (List UInt8)} (h : l ≠ []) : cost (glueC b l) = cost l + 2 := by
  cases l with
  | nil => exact absurd rfl h
  | cons x xs => unfold cost glueC; simp only [List.map_cons, List.sum_cons, List.length_cons]; omega
theorem cost_segs (c : UInt8) : ∀ s : List UInt8, cost (segsC c s) ≤ 6 * s.length + 6
  | [] => Nat.le_refl _
  | b :: r => by
    have ih := cost_segs c r
    rw [segsC, List.length_cons]
    split
    · have e : cost ([] :: segsC c r) = 6 + cost (segsC c r) := by unfold cost; simp
      omega
    · rw [cost_glue b (segsC_ne c r)]; omega
theorem glue_len (b : UInt8) {l : List (List UInt8)} (h : l ≠ []) : (glueC b l).length = l.length := by
  cases l with
  | nil => exact absurd rfl h
  | cons x xs => rfl
theorem segs_few (c : UInt8) : ∀ s : List UInt8, (segsC c s).length ≤ s.length + 1 ∧ ∀ x ∈ segsC c s, x.length ≤ s.length
  | [] => by simp [segsC]
  | b :: r => by
    obtain ⟨h1, h2⟩ := segs_few c r
    rw [segsC]
    split
    · refine ⟨by simpa using h1, fun x hx => ?_⟩
      rcases List.mem_cons.1 hx with rfl | hx
      · simp
      · have := h2 x hx; rw [List.length_cons]; omega
    · refine ⟨by rw [glue_len b (segsC_ne c r), List.length_cons]; omega, fun x hx => ?_⟩
      cases h : segsC c r with
      | nil => exact absurd h (segsC_ne c r)
      | cons y ys =>
        rw [h] at hx h2
        simp only [glueC] at hx
        rcases List.mem_cons.1 hx with rfl | hx
        · have := h2 y List.mem_cons_self; simp only [List.length_cons]; omega
        · have := h2 x (List.mem_cons_of_mem _ hx); rw [List.length_cons]; omega
end Go.Proofs.YtidgpkccjcddgaaGreatDoor.F
/- A form is read of a text: package linear's Parse. Condition: a text of at most 67108864 bytes; the tables lie in blocks 0 to 3. -/
set_option linter.unusedVariables false
set_option linter.unusedSimpArgs false
namespace Go.Proofs.YtidgpkccjcddgaaGreatDoor.F
open Go.RowKit Go.Shelf Go.Proofs.YtidgpkccjcddgaaGreatDoorW.PrintLast

theorem split_l (l : List UInt8) (c : UInt8) (w : World) (hl : l.length ≤ 4000000000) (hL : Laid w) :
    Calls Tryz.prog 55 #[.string ⟨l.toArray⟩, .string ⟨#[c]⟩] w fun e w' => ∃ g, e = .returned (.slice (some ⟨g, 0, none⟩) (segsC c l).length (segsC c l).length) ∧ Below w.heap.size w w' ∧ ∀ i (h : i < (segsC c l).length), w'.cell? ⟨g, i, none⟩ = some (.string ⟨((segsC c l)[i]).toArray⟩) := by
  obtain ⟨m, hm⟩ := hL.mx
  refine (strings_Split ⟨l.toArray⟩ ⟨#[c]⟩ m w (by show l.toArray.size < _; rw [List.size_toArray]; omega) hm (by show 1 ≤ (#[c] : Array UInt8).size; exact Nat.le_refl _)).mono ?_
  rintro e w' ⟨rfl, rfl⟩
  have e1 : Lib.countB ⟨l.toArray⟩ ⟨#[c]⟩ + 1 = (segsC c l).length := (segsC_length c l).symm
  rw [e1]
  refine ⟨_, rfl, (Below.refl _ w).alloc (Nat.le_refl _) _, fun i h => ?_⟩
  have ho := Own.mk (w := w) ((Lib.splitB ⟨#[c]⟩ 0 (Lib.countB ⟨l.toArray⟩ ⟨#[c]⟩) ⟨l.toArray⟩).map Value.string) 9
  rw [split_segsC] at ho ⊢
  have := ho.cell i (by simpa using h)
  rw [this]
  simp
/-- what a reader of forms answers -/
def ToldPF (w : World) (s : List UInt8) (e : Ending) (w' : World) : Prop :=
  (∃ (l : Frm) (A : Option Addr) (c : Nat), e = .returned (.tuple #[.slice A l.length c, .int .i64 0]) ∧ FIn w' A c l ∧ CanF l ∧ s = tf l ∧ mf l ≤ 6 * s.length + 6 ∧ Below w.heap.size w w') ∨
  (e = .returned (.tuple #[.slice none 0 0, .int .i64 60]) ∧ Below w.heap.size w w' ∧ ∀ l, CanF l → s ≠ tf l)
theorem pushA {w : World} {B : Nat} {v : Value} {l : Frm} {r : MC} (h : OwnF w B v l) (k : r.At w) (hl : l.length + 1 ≤ 1099511627776) (hB : B ≤ w.heap.size) :
    ∃ v' w', (Builtin.append_ #[31, 31] 31 #[v, .slice (some ⟨w.heap.size, 0, none⟩) 1 1]).run Tryz.prog (w.alloc (.cells r.cells.toArray 57)) = .ok v' w' ∧ OwnF w' B v' (l ++ [r.vq]) ∧ Below B w w' := by
  have hal : Below w.heap.size w (w.alloc (.cells r.cells.toArray 57)) := (Below.refl _ w).alloc (Nat.le_refl _) _
  obtain ⟨v', w', h1, h2, h3⟩ := push1 (t := 31) (ty := 31) Tryz.underlying31 (h.below hal) (k.keep (KeepU.below hal)) (Own.mk (w := w) r.cells 57) hl (Nat.le_trans hB hal.size)
  exact ⟨v', w', h1, h2, (hal.mono hB).trans h3.below⟩
theorem normC (A : Option Addr) (c : Nat) (l : Frm) (w : World) (h : FIn w A c l) (hm : mf l ≤ 549755813) : Calls Tryz.prog 19 #[.slice A l.length c] w (ToldFm w (nform l)) := by
  have h1 := linear_Norm l.length A c (l.map canM) w (by simp) (h.raw (by have := mf_len' l; omega))
  rwa [List.length_map, fval_can] at h1
theorem textC (A : Option Addr) (c : Nat) (l : Frm) (w : World) (h : FIn w A c l) (hv : CanF l) (hm : mf l ≤ 549755813) : Calls Tryz.prog 17 #[.slice A l.length c] w fun e w' => e = .returned (.string ⟨(tf l).toArray⟩) ∧ Below w.heap.size w w' := by
  have h2 := linear_Text A c (l.map canM) w (h.raw (by have := mf_len' l; omega)) (by rw [fval_can, nform_self hv.nf]; exact TxOk.of hv.var hm)
  rwa [List.length_map, fval_can, nform_self hv.nf] at h2

set_option maxHeartbeats 1000000 in
set_option maxRecDepth 100000 in
theorem linear_Parse (s : List UInt8) (w : World) (hs : s.length ≤ 67108864) (hL : Laid w) :
    Calls Tryz.prog 14 #[.string ⟨s.toArray⟩] w (ToldPF w s) := by
  have HL := Lib.hid hL
  have HSp := Lib.hid (split_l s 43 w (by omega) hL)
  have hSB : (⟨s.toArray⟩ : ByteArray).toList = s := ByteArray.toList_mk s
  clear hL
  generalize (⟨s.toArray⟩ : ByteArray) = SB at *
  by_cases h0 : s = [48]
  · have hz : (s == [48]) = true := by rw [h0]; rfl
    have HXX := Lib.hid (show ∀ l0, CanF l0 → s = tf l0 → ([] : Frm) = l0 from fun l0 _ h => by
      rw [h0] at h
      by_cases hl : l0 = []
      · exact hl.symm
      · exact absurd h.symm (tf_zero hl))
    have HN := Lib.hid (fun (W : World) (k : FIn W none 0 []) => normC none 0 [] W k (by decide))
    have HCn := Lib.hid (show CanF (nform []) from CanF.nil)
    have HI := Lib.hid (FIn.nil w none 0)
    have HB := Lib.hid (Below.refl w.heap.size w)
    have hmf : mf [] ≤ 6 * s.length + 6 := Nat.zero_le _
    clear h0 HSp HL
    go_enter Tryz.func14, Tryz.ntmps14
    go_wp2_with fail
    refine (HN.out _ HI.out).mono ?_
    rintro e W3 ⟨v3, rfl, h1, hb⟩
    obtain ⟨E3, j3, rfl, k3⟩ := h1.fin
    have HI3 := Lib.hid k3
    replace HB := Lib.hid (HB.out.trans (hb.mono HB.out.size))
    clear h1 k3 hb HN HI
    have HT := Lib.hid (textC E3 j3 (nform []) W3 HI3.out HCn.out (Nat.le_trans (mf_nform []) (by omega)))
    have HMn := Lib.hid (show mf (nform []) ≤ 6 * s.length + 6 from Nat.le_trans (mf_nform []) hmf)
    generalize hnl : nform [] = nl at *
    have HNL := Lib.hid hnl
    clear hnl
    go_wp2_with fail
    refine HT.out.mono ?_
    rintro e W4 ⟨rfl, q1⟩
    replace HI3 := Lib.hid (HI3.out.below q1)
    replace HB := Lib.hid (HB.out.trans (q1.mono HB.out.size))
    clear q1 HT
    by_cases heq : tf nl = s
    · have hte : (tf nl == s) = true := by rw [heq]; simp
      have HR := Lib.hid heq.symm
      clear heq
      go_wp2
      go_ret2
      exact .inl ⟨nl, _, _, rfl, HI3.out, HCn.out, HR.out, HMn.out, HB.out⟩
    · have hte : (tf nl == s) = false := by simpa using heq
      have HR := Lib.hid (show ∀ l0, CanF l0 → s ≠ tf l0 from fun l0 hc h => heq (by
        have h5 := HXX.out l0 hc h
        rw [← HNL.out, h5, nform_self hc.nf]
        exact h.symm))
      clear heq HNL
      go_wp2
      go_ret2
      exact .inr ⟨rfl, HB.out, HR.out⟩
  · have hz : (s == [48]) = false := by simpa using h0
    have hn0 : ∀ l0, s = tf l0 → l0 ≠ [] := fun l0 h e => h0 (by rw [h, e]; rfl)
    have hseg : ∀ l0, s = tf l0 → segsC 43 s = l0.map tt := fun l0 h => by
      rw [h]; exact tf_segs (hn0 l0 h)
    have hcost := cost_segs 43 s
    obtain ⟨hfew, hlen⟩ := segs_few 43 s
    generalize segsC 43 s = xs at *
    have HSeg := Lib.hid hseg
    have HLen := Lib.hid hlen
    clear hn0 hseg hlen h0
    go_enter Tryz.func14, Tryz.ntmps14
    go_wp2_with fail
    refine HSp.out.mono ?_
    rintro e W1 ⟨g, rfl, hb, hc⟩
    have HC := Lib.hid hc
    have HB1 := Lib.hid hb
    replace HL := Lib.hid (HL.out.below hb)
    clear hc hb HSp
    go_wp2_with fail
    go_loopg [4, 14] xs.length (fun gg s4 s14 wr => ∃ (i : Nat) (v : Value) (l : Frm), i + gg = xs.length ∧ s14 = .int .i64 i ∧ s4 = v ∧ l.length = i ∧ mf l ≤ cost (xs.take i) ∧ Hid (OwnF wr W1.heap.size v l) ∧ Hid (∀ m ∈ l, inr m.1) ∧ Hid (∀ l0, CanF l0 → s = tf l0 → l = l0.take i) ∧ Hid (Below W1.heap.size W1 wr))
    case atStart => exact ⟨0, _, [], by omega, rfl, rfl, rfl, Nat.zero_le _, OwnF.nil _ _, (show Hid _ from fun m hm => by cases hm), (show Hid _ from fun l0 _ _ => by rw [List.take_zero]), Below.refl _ _⟩
    case round =>
      obtain ⟨i, v, l, hg, rfl, rfl, hli, hmf, HO, HV, HX, HB⟩ := hrel
      by_cases hlt : i < xs.length
      · have hltz : (i : Int) < (xs.length : Int) := by omega
        have hcell := cell_below HB.out (HC.out i hlt)
        have hct := cost_take xs i hlt
        have hxl := HLen.out xs[i] (List.getElem_mem hlt)
        have HXi := Lib.hid (show ∀ l0, s = tf l0 → ∃ h : i < l0.length, xs[i] = tt l0[i] from fun l0 h => by
          have h1 := HSeg.out l0 h
          have h2 : i < l0.length := by rw [h1] at hlt; simpa using hlt
          refine ⟨h2, ?_⟩
          simp only [h1, List.getElem_map])
        have HPt := Lib.hid (linear_part xs[i] wr (by omega) (HL.out.below HB.out))
        generalize xs[i] = x at *
        go_wp2_with fail
        refine HPt.out.mono ?_
        rintro e W2 (⟨r, rfl, hat, hiv, hsz, hb, hm⟩ | ⟨v1, b1, A1, n1, c1, B1, m1, d1, rfl, hb, hm⟩)
        · have hmu := mu_szq r.q
          have HA := Lib.hid hat
          have HM := Lib.hid hm
          have HIv := Lib.hid hiv
          replace HO := Lib.hid (HO.out.below hb)
          replace HB := Lib.hid (HB.out.trans (hb.mono HB.out.size))
          clear hat hm hiv hb HPt hcell
          have hal : Below W2.heap.size W2 (W2.alloc (.cells r.cells.toArray 57)) := (Below.refl _ W2).alloc (Nat.le_refl _) _
          have ho := Own.mk (w := W2) r.cells 57
          replace HO := Lib.hid (HO.out.below hal)
          replace HA := Lib.hid (HA.out.keep (KeepU.below hal))
          replace HB := Lib.hid (HB.out.trans (hal.mono HB.out.size))
          have c0 := ho.cell 0 (by show 0 < 4; omega)
          have c1 := ho.cell 1 (by show 1 < 4; omega)
          have c2 := ho.cell 2 (by show 2 < 4; omega)
          have c3 := ho.cell 3 (by show 3 < 4; omega)
          obtain ⟨v', W5, hr, hO', hb'⟩ := pushA HO.out HA.out (by omega) (HB.out.size)
          have HP := Lib.hid hr
          have HO2 := Lib.hid hO'
          have HB2 := Lib.hid (HB.out.trans hb')
          have HV2 := Lib.hid (show ∀ m ∈ l ++ [r.vq], inr m.1 from fun m hm => by
            rcases List.mem_append.1 hm with hm | hm
            · exact HV.out m hm
            · rw [List.mem_singleton.1 hm]; exact HIv.out)
          have HX2 := Lib.hid (show ∀ l0, CanF l0 → s = tf l0 → l ++ [r.vq] = l0.take (i + 1) from fun l0 hc h => by
            obtain ⟨h1, h2⟩ := HXi.out l0 h
            rw [List.take_succ_eq_append_getElem h1, ← HX.out l0 hc h, HM.out l0[i] (hc.var _ (List.getElem_mem h1)) h2])
          have hmf2 : mf (l ++ [r.vq]) ≤ cost (xs.take (i + 1)) := by
            rw [mf_append, hct]
            have : mf [r.vq] = mu r.q + 1 := by simp [mf, MC.vq]
            omega
          have hl2 : (l ++ [r.vq]).length = i + 1 := by rw [List.length_append, hli]; rfl
          generalize l ++ [r.vq] = l2 at *
          clear hr hO' hb' HO HV HX HM HXi HIv hsz hmu hct ho hal HA
          obtain ⟨rv0, rq0, rA, rc, rB, rd⟩ := r
          simp only [MC.cells] at HP c0 c1 c2 c3 ⊢
          simp only [List.getElem_cons_zero, List.getElem_cons_succ] at c0 c1 c2 c3
          go_upto_region 9 with (fail)
          generalize W2.alloc _ = W6 at HP c0 c1 c2 c3 ⊢
          go_wp2_with (refine pushL_ rfl rfl rfl rfl HP.out ?_; clear HP)
          go_roundg (xs.length - (i + 1))
          case measure => omega
          case rel => exact ⟨i + 1, v', l2, by omega, by go_num, rfl, hl2, hmf2, HO2, HV2, HX2, HB2⟩
        · have HR := Lib.hid (show ∀ l0, CanF l0 → s ≠ tf l0 from fun l0 hc h => by
            obtain ⟨h1, h2⟩ := HXi.out l0 h
            exact hm l0[i] (hc.var _ (List.getElem_mem h1)) h2)
          have HB9 := Lib.hid (HB1.out.trans ((HB.out.trans (hb.mono HB.out.size)).mono HB1.out.size))
          have hal : Below W2.heap.size W2 (W2.alloc (.cells #[.int .i64 v1, .bool b1, .slice A1 n1 c1, .slice B1 m1 d1] 57)) := (Below.refl _ W2).alloc (Nat.le_refl _) _
          have HB8 := Lib.hid (HB9.out.trans (hal.mono HB9.out.size))
          clear hm hb HPt HXi HX HV HO HB hal HB9
          go_wp2
          go_ret2
          exact .inr ⟨rfl, HB8.out, HR.out⟩
      · have hltz : ¬ (i : Int) < (xs.length : Int) := by omega
        have hil : i = xs.length := by omega
        have HXX := Lib.hid (show ∀ l0, CanF l0 → s = tf l0 → l = l0 from fun l0 hc h => by
          rw [HX.out l0 hc h]
          refine List.take_of_length_le ?_
          have h1 := HSeg.out l0 h
          rw [hil, h1, List.length_map]
          exact Nat.le_refl _)
        have hmf0 : mf l ≤ 6 * s.length + 6 := by rw [hil, List.take_of_length_le (Nat.le_refl _)] at hmf; omega
        obtain ⟨A, c, rfl, k1⟩ := HO.out.fin
        have HI := Lib.hid k1
        have HCn := Lib.hid (CanF.of HV.out)
        have HN := Lib.hid (fun (W : World) (k : FIn W A c l) => normC A c l W k (by omega))
        replace HB := Lib.hid (HB1.out.trans (HB.out.mono HB1.out.size))
        clear HX HV HO k1 HSeg HLen HL HC hmf
        have hmf := hmf0
        clear hmf0
        subst hli
        clear hil hg
        go_wp2_with fail
        refine (HN.out _ HI.out).mono ?_
        rintro e W3 ⟨v3, rfl, h1, hb⟩
        obtain ⟨E3, j3, rfl, k3⟩ := h1.fin
        have HI3 := Lib.hid k3
        replace HB := Lib.hid (HB.out.trans (hb.mono HB.out.size))
        clear h1 k3 hb HN HI
        have HT := Lib.hid (textC E3 j3 (nform l) W3 HI3.out HCn.out (Nat.le_trans (mf_nform l) (by omega)))
        have HMn := Lib.hid (show mf (nform l) ≤ 6 * s.length + 6 from Nat.le_trans (mf_nform l) hmf)
        generalize hnl : nform l = nl at *
        have HNL := Lib.hid hnl
        clear hnl
        go_wp2_with fail
        refine HT.out.mono ?_
        rintro e W4 ⟨rfl, q1⟩
        replace HI3 := Lib.hid (HI3.out.below q1)
        replace HB := Lib.hid (HB.out.trans (q1.mono HB.out.size))
        clear q1 HT
        by_cases heq : tf nl = s
        · have hte : (tf nl == s) = true := by rw [heq]; simp
          have HR := Lib.hid heq.symm
          clear heq
          go_wp2
          go_ret2
          exact .inl ⟨nl, _, _, rfl, HI3.out, HCn.out, HR.out, HMn.out, HB.out⟩
        · have hte : (tf nl == s) = false := by simpa using heq
          have HR := Lib.hid (show ∀ l0, CanF l0 → s ≠ tf l0 from fun l0 hc h => heq (by
            have h5 := HXX.out l0 hc h
            rw [← HNL.out, h5, nform_self hc.nf]
            exact h.symm))
          clear heq HNL
          go_wp2
          go_ret2
          exact .inr ⟨rfl, HB.out, HR.out⟩
end Go.Proofs.YtidgpkccjcddgaaGreatDoor.F
/- What a card's listed variables and a row's shape give the readers: the length that bytealg bears, the errors, the ranges of variables. No condition. -/
set_option linter.unusedVariables false
set_option linter.unusedSimpArgs false
namespace Go.Proofs.YtidgpkccjcddgaaGreatDoor.F
open Go.RowKit Go.Shelf

theorem maxLen_is (w : World) (h : w.ShapedOpen Tryz.prog) : ∃ m, w.cell? ⟨1, 0, none⟩ = some (.int .i64 m) :=
  Go.Proofs.cell_of_shapedOpen_int (zero := #[.int .i64 0]) (t := 3) h (of_decide_eq_true (by kernel_rfl)) (by kernel_rfl) rfl (by kernel_rfl) (by kernel_rfl) Tryz.underlying3
theorem mono_var {H : Type} {m : Int × RatD} {d : DataW H} (h : okMono m H d) : inr m.1 := by
  obtain ⟨d1, _, _, h1, _⟩ := h
  have := h1.1
  simp [Lit.wf, IntKind.min, IntKind.max, IntKind.signed, IntKind.bits] at this
  exact ⟨by omega, by omega⟩
theorem err_star : "*" ++ "errors.errorString" = "*errors.errorString" := by decide
theorem err_row (u : TypeId) (h : Tryz.prog.typeName? 3 u = some "*errors.errorString") : u = 308 :=
  typeName_ptr_named (nm := "errors.errorString") (by rw [err_star]; kernel_rfl) (by kernel_rfl) (by decide) u (by rw [err_star]; exact h)
theorem err_cell {n : String} {text : List UInt8} {r : List (String × DataW Unit)} {W : World} {g : Nat} (h : laidMet Tryz.prog ((n, .iface "*errors.errorString" (.ptr (.agg [.lit (.string text)]))) :: r) W)
    (hg : Tryz.prog.globalNamed n = some g) (ht : (Tryz.prog.globals[g]?).map (·.type) = some 93) : ∃ ev, W.cell? ⟨g, 0, none⟩ = some ev ∧ (ev = .nilIface ∨ ∃ te pe, ev = .iface te pe) := by
  obtain ⟨a, s, hv, _⟩ := laid_sentinel h hg ht Tryz.underlying93 err_row Tryz.underlying308 Tryz.underlying310 rfl rfl Tryz.underlying9 (by kernel_rfl) (by kernel_rfl)
  exact ⟨_, by have := World.var?_cell hg hv 0; rw [this]; rfl, .inr ⟨_, _, rfl⟩⟩
end Go.Proofs.YtidgpkccjcddgaaGreatDoor.F

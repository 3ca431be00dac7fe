/- One part of a form's text is read: package linear's part. Condition: a text of at most 67108864 bytes; the tables lie in blocks 0 to 3. -/
import Derived.Test.YtidgpkccjcddgaaGreatDoorHac
import Derived.Test.YtidgpkccjcddgaaGreatDoorGo
import Derived.Test.YtidgpkccjcddgaaGreatDoorHaa
set_option linter.unusedVariables false
set_option linter.unusedSimpArgs false
namespace Go.Proofs.YtidgpkccjcddgaaGreatDoor.F
open Go.RowKit Go.Shelf Go.Proofs.YtidgpkccjcddgaaGreatDoorW.PrintLast
theorem below_bytes (w : World) (e : TypeId) (s : ByteArray) : Below w.heap.size w (Lib.bytesWorld w e s) :=
 ⟨rfl, rfl, rfl, by rw [Lib.bytesWorld_size]; omega, fun k hk => Lib.bytesWorld_at_old w e s k hk⟩
theorem atoi_l (l : List UInt8) (w : World) (hl : l.length ≤ 4000000000) (hL : Laid w) :
 Calls Tryz.prog 118 #[.string ⟨l.toArray⟩] w fun e w' => ∃ v err, e = .returned (.tuple #[.int .i64 v, err]) ∧ Below w.heap.size w w' ∧ ((Lib.atoiAll l = .ok v ∧ err = .nilIface) ∨ ((∀ v, Lib.atoiAll l ≠ .ok v) ∧ ∃ t p, err = .iface t (.pointer (some p)))) := by
 have hsz : (⟨l.toArray⟩ : ByteArray).size = l.length := by show l.toArray.size = _; simp
 obtain ⟨e1, h1, h1'⟩ := hL.sy
 obtain ⟨e2, h2, h2'⟩ := hL.rg
 cases h : Lib.atoiAll l
 · rename_i v
   refine (strconv_Atoi_ok ⟨l.toArray⟩ (by rw [hsz]; omega) v h w).mono ?_
   rintro e w' ⟨rfl, hw⟩
   refine ⟨v, .nilIface, rfl, ?_, .inl ⟨rfl, rfl⟩⟩
   rcases hw with rfl | ⟨t, rfl⟩
   · exact Below.refl _ _
   · exact below_bytes _ _ _
 · refine (Any.strconv_Atoi_syntax laysC172 ⟨l.toArray⟩ (by rw [hsz]; omega) h e1 w h1 h1').mono ?_
   rintro e w' ⟨N, rfl, _, _, hb⟩
   exact ⟨_, _, rfl, hb, .inr ⟨fun v => by simp, _, _, rfl⟩⟩
 · refine (strconv_Atoi_range ⟨l.toArray⟩ (by rw [hsz]; omega) h e2 w h2 h2').mono ?_
   rintro e w' ⟨N, rfl, _, _, hb⟩
   exact ⟨_, _, rfl, hb, .inr ⟨fun v => by simp, _, _, rfl⟩⟩
def szq (q : Rat) : Nat := (dg q.num.natAbs).length + (dg q.den).length
def ToldPt (w : World) (s : List UInt8) (e : Ending) (w' : World) : Prop :=
 (∃ r : MC, e = .returned (.tuple #[.agg r.cells.toArray, .bool true]) ∧ r.At w' ∧ inr r.v ∧ szq r.q ≤ 2 * s.length + 4 ∧ Below w.heap.size w w' ∧ ∀ m : Int × Rat, inr m.1 → s = tt m → r.vq = m) ∨
 (∃ v b A n c B m d, e = .returned (.tuple #[.agg #[.int .i64 v, .bool b, .slice A n c, .slice B m d], .bool false]) ∧ Below w.heap.size w w' ∧ ∀ m : Int × Rat, inr m.1 → s ≠ tt m)
theorem put4_end {w W : World} {bs : List (Nat × List Value)} {g : Nat} {x1 x2 x3 x4 : Value} (h : Fr w W ((g, [x1, x2, x3, x4]) :: bs)) (hg : w.heap.size ≤ g) (hn : NoU [x1, x2, x3, x4]) (y1 y2 y3 y4 : Value) (hm : NoU [y1, y2, y3]) {W' : World}
 (hW : W' = (((W.setCell ⟨g, 0, none⟩ y1).setCell ⟨g, 1, none⟩ y2).setCell ⟨g, 2, none⟩ y3).setCell ⟨g, 3, none⟩ y4) :
 Below w.heap.size w W' ∧ Own W' g [y1, y2, y3, y4] ∧ KeepU W W' := by
 subst hW
 have ho := h.own (List.mem_cons_self ..)
 exact ⟨(((h.1.setCell hg _).setCell hg _).setCell hg _).setCell hg _, (((ho.set 0 _).set 1 _).set 2 _).set 3 _, KeepU.put4 ho hn hm y4⟩
theorem Fr.swap {w W : World} {a b : Nat × List Value} {bs : List (Nat × List Value)} (h : Fr w W (a :: b :: bs)) : Fr w W (b :: a :: bs) := ⟨h.1, fun p hp => h.2 p (by simp only [List.mem_cons] at hp ⊢; rcases hp with h | h | h <;> simp [h])⟩
set_option maxHeartbeats 8000000 in
set_option maxRecDepth 100000 in
theorem linear_part (s : List UInt8) (w : World) (hs : s.length ≤ 67108864) (hL : Laid w) :
 Calls Tryz.prog 56 #[.string ⟨s.toArray⟩] w (ToldPt w s) := by
 have HF := Lib.hid ((Fr.refl w).box [.int .i64 0, .bool false, .slice none 0 0, .slice none 0 0] 57)
 have HL := Lib.hid (hL.below HF.out.bel)
 have hC := fun (W : World) (k : Laid W) => cut_l s [42, 120] W (by omega) k
 have hcl := cut_len s [42, 120]
 have hc0 : ∀ m : Int × Rat, s = tt m → Lib.cut s [42, 120] = (tq m.2, Lib.itoa m.1, true) := fun m h => by subst h; exact cut_tt m
 clear hL
 generalize Lib.cut s [42, 120] = ct at *
 obtain ⟨a, b, ok⟩ := ct
 dsimp only at hC hcl
 have HC := Lib.hid hC
 have HC0 := Lib.hid hc0
 clear hC hc0
 have hR := Lib.hid (fun (W : World) (k : Laid W) => ratio_Parse a W (by omega) k)
 have hA := Lib.hid (fun (W : World) (k : Laid W) => atoi_l b W (by omega) k)
 go_enter Tryz.func56, Tryz.ntmps56
 go_wp2_with fail
 refine (HC.out _ HL.out).mono ?_
 rintro e W1 ⟨rfl, q1⟩
 replace HF := Lib.hid (HF.out.below q1)
 replace HL := Lib.hid (HL.out.below q1)
 clear q1 HC
 go_wp2_with fail
 refine (hR.out _ HL.out).mono ?_
 rintro e W2 (⟨q, A1, c1, B1, d1, rfl, q1, hq, q2, hx⟩ | ⟨rfl, q2, hx⟩)
 · replace HF := Lib.hid (HF.out.below q2)
   replace HL := Lib.hid (HL.out.below q2)
   have HX := Lib.hid hx
   have hlt2 : w.heap.size < W2.heap.size := HF.out.ltN 0 rfl
   have hal := Lib.hid ((Below.refl _ W2).alloc (Nat.le_refl _) (.cells #[.bool (decide (q.num < 0)), .slice A1 (dg q.num.natAbs).length c1, .slice B1 (dg q.den).length d1] 43))
   replace HF := Lib.hid (HF.out.box [.bool (decide (q.num < 0)), .slice A1 (dg q.num.natAbs).length c1, .slice B1 (dg q.den).length d1] 43)
   replace HL := Lib.hid (HL.out.below hal.out)
   have HQ := Lib.hid (q1.below hal.out)
   have HSz := Lib.hid (show szq q ≤ 2 * s.length + 4 ∧ QL q from ⟨by unfold szq; omega, by omega, by omega⟩)
   have hgw : w.heap.size < W2.heap.size := hlt2
   clear q1 q2 hx hal hR hq
   generalize hg2 : W2.heap.size = g2 at *
   generalize hqb : decide (q.num < 0) = qb at *
   generalize hqn : (dg q.num.natAbs).length = qn at *
   generalize hqd : (dg q.den).length = qd at *
   go_wp2_with fail
   refine (hA.out _ HL.out).mono ?_
   rintro e W3 ⟨v, err, rfl, q3, hv⟩
   replace HF := Lib.hid (HF.out.below q3)
   replace HQ := Lib.hid (HQ.out.below q3)
   clear q3 hA HL
   cases ok with
   | true =>
    rcases hv with ⟨hv, rfl⟩ | ⟨hv, t, p, rfl⟩
    · have hvb := Lib.hid (Lib.atoiAll_bounds hv)
      have HM := Lib.hid (show ∀ m : Int × Rat, inr m.1 → s = tt m → (v, q) = m from fun m hm h => by
       have h1 := HC0.out m h
       simp only [Prod.mk.injEq, and_true] at h1
       have h2 := HX.out m.2 h1.1
       rw [h1.2, atoi_itoa hm.1 hm.2] at hv
       simp only [Lib.NumEnd.ok.injEq] at hv
       exact Prod.ext hv.symm h2)
      clear hv HX HC0
      have hf0 := HF.out.frozenN 1 rfl 0
      have hf1 := HF.out.frozenN 1 rfl 1
      have hf2 := HF.out.frozenN 1 rfl 2
      have hf3 := HF.out.frozenN 1 rfl 3
      have hd0 := HF.out.cellN 1 rfl 0 rfl
      have hd1 := HF.out.cellN 1 rfl 1 rfl
      have hd2 := HF.out.cellN 1 rfl 2 rfl
      have hd3 := HF.out.cellN 1 rfl 3 rfl
      have hr0 := HF.out.cellN 0 rfl 0 rfl
      have hr1 := HF.out.cellN 0 rfl 1 rfl
      have hr2 := HF.out.cellN 0 rfl 2 rfl
      have HE := Lib.hid (put4_end HF.out.swap (Nat.le_refl _) (by intro y hy; simp at hy) (.int .i64 v) (.bool qb) (.slice A1 qn c1) (.slice B1 qd d1) (by intro y hy; simp at hy) rfl)
      clear HF
      go_wp2_with (go_region)
      subst hqb hqn hqd
      exact post_ownU HE.out.2.1 rfl rfl rfl Tryz.underlying57 rfl (by kernel_rfl) (.inl ⟨⟨v, q, A1, c1, B1, d1⟩, rfl, ⟨(HQ.out.keep HE.out.2.2).below (Below.drew (Below.refl _ _)), HSz.out.2⟩, hvb.out, HSz.out.1, Below.drew HE.out.1, HM.out⟩)
    · have HM := Lib.hid (show ∀ m : Int × Rat, inr m.1 → s ≠ tt m from fun m hm h => by
       have h1 := HC0.out m h
       simp only [Prod.mk.injEq, and_true] at h1
       exact hv m.1 (by rw [h1.2]; exact atoi_itoa hm.1 hm.2))
      clear hv HX HC0 HQ HSz
      have hf0 := HF.out.frozenN 1 rfl 0
      have hf1 := HF.out.frozenN 1 rfl 1
      have hf2 := HF.out.frozenN 1 rfl 2
      have hf3 := HF.out.frozenN 1 rfl 3
      have hd0 := HF.out.cellN 1 rfl 0 rfl
      have hd1 := HF.out.cellN 1 rfl 1 rfl
      have hd2 := HF.out.cellN 1 rfl 2 rfl
      have hd3 := HF.out.cellN 1 rfl 3 rfl
      have hr0 := HF.out.cellN 0 rfl 0 rfl
      have hr1 := HF.out.cellN 0 rfl 1 rfl
      have hr2 := HF.out.cellN 0 rfl 2 rfl
      have HE := Lib.hid (put4_end HF.out.swap (Nat.le_refl _) (by intro y hy; simp at hy) (.int .i64 v) (.bool qb) (.slice A1 qn c1) (.slice B1 qd d1) (by intro y hy; simp at hy) rfl)
      clear HF
      go_wp2_with (go_region)
      exact post_ownU HE.out.2.1 rfl rfl rfl Tryz.underlying57 rfl (by kernel_rfl) (.inr ⟨_, _, _, _, _, _, _, _, rfl, Below.drew HE.out.1, HM.out⟩)
   | false =>
    have HM := Lib.hid (show ∀ m : Int × Rat, inr m.1 → s ≠ tt m from fun m hm h => by
     have h1 := HC0.out m h
     simp only [Prod.mk.injEq] at h1
     exact absurd h1.2.2 (by decide))
    clear hv HX HC0 HQ HSz
    have hf0 := HF.out.frozenN 1 rfl 0
    have hf1 := HF.out.frozenN 1 rfl 1
    have hf2 := HF.out.frozenN 1 rfl 2
    have hf3 := HF.out.frozenN 1 rfl 3
    have hd0 := HF.out.cellN 1 rfl 0 rfl
    have hd1 := HF.out.cellN 1 rfl 1 rfl
    have hd2 := HF.out.cellN 1 rfl 2 rfl
    have hd3 := HF.out.cellN 1 rfl 3 rfl
    have hr0 := HF.out.cellN 0 rfl 0 rfl
    have hr1 := HF.out.cellN 0 rfl 1 rfl
    have hr2 := HF.out.cellN 0 rfl 2 rfl
    have HE := Lib.hid (put4_end HF.out.swap (Nat.le_refl _) (by intro y hy; simp at hy) (.int .i64 v) (.bool qb) (.slice A1 qn c1) (.slice B1 qd d1) (by intro y hy; simp at hy) rfl)
    clear HF
    go_wp2_with (go_region)
    exact post_ownU HE.out.2.1 rfl rfl rfl Tryz.underlying57 rfl (by kernel_rfl) (.inr ⟨_, _, _, _, _, _, _, _, rfl, Below.drew HE.out.1, HM.out⟩)
 · replace HF := Lib.hid (HF.out.below q2)
   replace HL := Lib.hid (HL.out.below q2)
   have HM := Lib.hid (show ∀ m : Int × Rat, inr m.1 → s ≠ tt m from fun m hm h => by
    have h1 := HC0.out m h
    simp only [Prod.mk.injEq] at h1
    exact hx m.2 h1.1)
   have hlt2 : w.heap.size < W2.heap.size := HF.out.ltN 0 rfl
   have hal := Lib.hid ((Below.refl _ W2).alloc (Nat.le_refl _) (.cells #[.bool false, .slice none 0 0, .slice none 0 0] 43))
   replace HF := Lib.hid (HF.out.box [.bool false, .slice none 0 0, .slice none 0 0] 43)
   replace HL := Lib.hid (HL.out.below hal.out)
   have hgw : w.heap.size < W2.heap.size := hlt2
   clear q2 hx hal hR HC0
   generalize hg2 : W2.heap.size = g2 at *
   go_wp2_with fail
   refine (hA.out _ HL.out).mono ?_
   rintro e W3 ⟨v, err, rfl, q3, hv⟩
   replace HF := Lib.hid (HF.out.below q3)
   clear q3 hA HL hv
   cases ok with
   | true =>
    have hf0 := HF.out.frozenN 1 rfl 0
    have hf1 := HF.out.frozenN 1 rfl 1
    have hf2 := HF.out.frozenN 1 rfl 2
    have hf3 := HF.out.frozenN 1 rfl 3
    have hd0 := HF.out.cellN 1 rfl 0 rfl
    have hd1 := HF.out.cellN 1 rfl 1 rfl
    have hd2 := HF.out.cellN 1 rfl 2 rfl
    have hd3 := HF.out.cellN 1 rfl 3 rfl
    have hr0 := HF.out.cellN 0 rfl 0 rfl
    have hr1 := HF.out.cellN 0 rfl 1 rfl
    have hr2 := HF.out.cellN 0 rfl 2 rfl
    have HE := Lib.hid (put4_end HF.out.swap (Nat.le_refl _) (by intro y hy; simp at hy) (.int .i64 v) (.bool false) (.slice none 0 0) (.slice none 0 0) (by intro y hy; simp at hy) rfl)
    clear HF
    go_wp2_with (go_region)
    exact post_ownU HE.out.2.1 rfl rfl rfl Tryz.underlying57 rfl (by kernel_rfl) (.inr ⟨_, _, _, _, _, _, _, _, rfl, Below.drew HE.out.1, HM.out⟩)
   | false =>
    have hf0 := HF.out.frozenN 1 rfl 0
    have hf1 := HF.out.frozenN 1 rfl 1
    have hf2 := HF.out.frozenN 1 rfl 2
    have hf3 := HF.out.frozenN 1 rfl 3
    have hd0 := HF.out.cellN 1 rfl 0 rfl
    have hd1 := HF.out.cellN 1 rfl 1 rfl
    have hd2 := HF.out.cellN 1 rfl 2 rfl
    have hd3 := HF.out.cellN 1 rfl 3 rfl
    have hr0 := HF.out.cellN 0 rfl 0 rfl
    have hr1 := HF.out.cellN 0 rfl 1 rfl
    have hr2 := HF.out.cellN 0 rfl 2 rfl
    have HE := Lib.hid (put4_end HF.out.swap (Nat.le_refl _) (by intro y hy; simp at hy) (.int .i64 v) (.bool false) (.slice none 0 0) (.slice none 0 0) (by intro y hy; simp at hy) rfl)
    clear HF
    go_wp2_with (go_region)
    exact post_ownU HE.out.2.1 rfl rfl rfl Tryz.underlying57 rfl (by kernel_rfl) (.inr ⟨_, _, _, _, _, _, _, _, rfl, Below.drew HE.out.1, HM.out⟩)
theorem joinC_flat (c : UInt8) : ∀ (x : List UInt8) (l : List (List UInt8)), joinC c (x :: l) = x ++ l.flatMap (c :: ·)
 | x, [] => by simp [joinC]
 | x, y :: r => by rw [joinC_cons c (by simp), joinC_flat c y r]; simp
def okI (x : List UInt8) : Bool := match Lib.atoiAll x with | .ok _ => true | _ => false
def valI (x : List UInt8) : Int := match Lib.atoiAll x with | .ok v => v | _ => 0
theorem okI_of {x : List UInt8} {v : Int} (h : Lib.atoiAll x = .ok v) : okI x = true ∧ valI x = v := by unfold okI valI; rw [h]; exact ⟨rfl, rfl⟩
theorem okI_no {x : List UInt8} (h : ∀ v, Lib.atoiAll x ≠ .ok v) : okI x = false := by
 unfold okI
 split
 · rename_i v hv; exact absurd hv (h v)
 · rfl
theorem okI_val {x : List UInt8} (h : okI x = true) : Lib.atoiAll x = .ok (valI x) := by
 cases hx : Lib.atoiAll x with
 | ok v => rw [(okI_of hx).2]
 | _ => exact absurd (okI_no (x := x) (fun v e => by rw [hx] at e; cases e)) (by rw [h]; simp)
theorem valI_inr {x : List UInt8} (h : okI x = true) : inr (valI x) := by
 have := Lib.atoiAll_bounds (okI_val h)
 unfold inr
 exact this
theorem okI_itoa {v : Int} (h : inr v) : okI (Lib.itoa v) = true ∧ valI (Lib.itoa v) = v := okI_of (atoi_itoa h.1 h.2)
noncomputable def okQ (x : List UInt8) : Bool := @decide (∃ q, x = tq q) (Classical.propDecidable _)
noncomputable def qOf (x : List UInt8) : Rat := @dite _ (∃ q, x = tq q) (Classical.propDecidable _) (fun h => h.choose) (fun _ => 0)
theorem okQ_tq (q : Rat) : okQ (tq q) = true ∧ qOf (tq q) = q := by
 have h : ∃ p, tq q = tq p := ⟨q, rfl⟩
 constructor
 · unfold okQ; exact @decide_eq_true _ (Classical.propDecidable _) h
 · unfold qOf; rw [dif_pos h]; exact tq_inj h.choose_spec.symm
def wI : List UInt8 := [105, 110, 112, 117, 116]
def wU : List UInt8 := [117, 110, 105, 116, 115]
def wF : List UInt8 := [102, 97, 114, 107, 97, 115]
def wB : List UInt8 := [98, 121]
structure CanS (d : StepD) : Prop where
 kind : d.1.1.1 = 1 ∧ d.1.2 = [] ∧ d.2 = [] ∨ d.1.1.1 = 2 ∧ d.2 = [] ∨ d.1.1.1 = 3 ∧ d.1.2 = []
 clause : ∀ x ∈ d.1.1.2, inr x
 byl : ∀ x ∈ d.1.2, inr x
 can : ∀ q ∈ d.2, q = canD (rq q)
def wdP (d : StepD) : List (List UInt8) := if d.1.1.1 = 1 then wI :: d.1.1.2.map Lib.itoa else if d.1.1.1 = 2 then wU :: (d.1.1.2.map Lib.itoa ++ wB :: d.1.2.map Lib.itoa) else wF :: (d.1.1.2.map Lib.itoa ++ wB :: d.2.map fun q => tq (rq q))
theorem numsT_flat (l : List Int) : numsT l = (l.map Lib.itoa).flatMap (32 :: ·) := by unfold numsT; rw [List.flatMap_map]
theorem ratsT_flat (l : List RatD) : ratsT l = (l.map fun q => tq (rq q)).flatMap (32 :: ·) := by unfold ratsT; rw [List.flatMap_map]
theorem lnP_join (d : StepD) : lnP d = joinC 32 (wdP d) := by
 unfold lnP wdP
 split
 · rw [joinC_flat, numsT_flat]; rfl
 · split
   · rw [joinC_flat, List.flatMap_append, List.flatMap_cons, numsT_flat, numsT_flat]; rfl
   · rw [joinC_flat, List.flatMap_append, List.flatMap_cons, numsT_flat, ratsT_flat]; rfl
theorem itoa_free32 (v : Int) : freeC 32 (Lib.itoa v) := fun b hb => by
 rcases itoa_bytes v b hb with rfl | h
 · decide
 · exact isDig_ne h (by decide)
theorem wdP_free (d : StepD) : ∀ x ∈ wdP d, freeC 32 x := by
 have hi : ∀ (l : List Int), ∀ x ∈ l.map Lib.itoa, freeC 32 x := fun l x hx => by
  obtain ⟨v, _, rfl⟩ := List.mem_map.1 hx
  exact itoa_free32 v
 have hq : ∀ (l : List RatD), ∀ x ∈ l.map (fun q => tq (rq q)), freeC 32 x := fun l x hx => by
  obtain ⟨v, _, rfl⟩ := List.mem_map.1 hx
  exact tq_free32 _
 have h1 : freeC 32 wI := by unfold freeC wI; decide
 have h2 : freeC 32 wU := by unfold freeC wU; decide
 have h3 : freeC 32 wF := by unfold freeC wF; decide
 have h4 : freeC 32 wB := by unfold freeC wB; decide
 intro x hx
 unfold wdP at hx
 split at hx
 · rcases List.mem_cons.1 hx with rfl | hx
   · exact h1
   · exact hi _ x hx
 · split at hx
   · rcases List.mem_cons.1 hx with rfl | hx
     · exact h2
     · rcases List.mem_append.1 hx with hx | hx
       · exact hi _ x hx
       · rcases List.mem_cons.1 hx with rfl | hx
         · exact h4
         · exact hi _ x hx
   · rcases List.mem_cons.1 hx with rfl | hx
     · exact h3
     · rcases List.mem_append.1 hx with hx | hx
       · exact hi _ x hx
       · rcases List.mem_cons.1 hx with rfl | hx
         · exact h4
         · exact hq _ x hx
theorem wdP_ne (d : StepD) : wdP d ≠ [] := by
 unfold wdP
 split
 · simp
 · split <;> simp
theorem segs_lnP (d : StepD) : segsC 32 (lnP d) = wdP d := by
 rw [lnP_join]
 exact segsC_join 32 _ (wdP_ne d) (wdP_free d)
def byI : List (List UInt8) → Nat
 | [] => 0
 | x :: r => if x = wB then 0 else byI r + 1
theorem itoa_by (v : Int) : Lib.itoa v ≠ wB := fun e => by
 have := itoa_bytes v 98 (by rw [e]; unfold wB; simp)
 rcases this with h | h
 · cases h
 · exact absurd h (by decide)
theorem byI_free : ∀ {l : List (List UInt8)}, (∀ x ∈ l, x ≠ wB) → byI l = l.length
 | [], _ => rfl
 | x :: l, h => by rw [byI, if_neg (h x (by simp)), byI_free fun y hy => h y (by simp [hy])]; rfl
theorem byI_at : ∀ {l : List (List UInt8)}, (∀ x ∈ l, x ≠ wB) → ∀ r : List (List UInt8), byI (l ++ wB :: r) = l.length
 | [], _, r => by rw [List.nil_append, byI, if_pos rfl]; rfl
 | x :: l, h, r => by rw [List.cons_append, byI, if_neg (h x (by simp)), byI_at (fun y hy => h y (by simp [hy])) r]; rfl
theorem byI_le : ∀ l : List (List UInt8), byI l ≤ l.length
 | [] => Nat.le_refl _
 | x :: l => by
  have := byI_le l
  rw [byI, List.length_cons]
  split <;> omega
theorem byI_found : ∀ {l : List (List UInt8)} {i : Nat} (h : i < l.length), (∀ j (hj : j < i), l[j]'(by omega) ≠ wB) → l[i] = wB → byI l = i
 | [], i, h, _, _ => absurd h (Nat.not_lt_zero _)
 | x :: l, 0, h, _, e => by rw [byI, if_pos (by simpa using e)]
 | x :: l, i + 1, h, hn, e => by
  have h0 : x ≠ wB := by simpa using hn 0 (by omega)
  rw [byI, if_neg h0, byI_found (i := i) (by simpa using h) (fun j hj => by simpa using hn (j + 1) (by omega)) (by simpa using e)]
theorem byI_not {l : List (List UInt8)} (hn : ∀ j (hj : j < l.length), l[j] ≠ wB) : byI l = l.length := byI_free fun x hx => by
 obtain ⟨j, hj, rfl⟩ := List.getElem_of_mem hx
 exact hn j hj
noncomputable def rdS : List (List UInt8) → Option StepD
 | [] => none
 | k :: r =>
  if (r.take (byI r)).all okI = false ∨ ¬(k ≠ wI ↔ byI r < r.length) then none
  else if k = wI then some (((1, (r.take (byI r)).map valI), []), [])
  else if k = wU then (if (r.drop (byI r + 1)).all okI then some (((2, (r.take (byI r)).map valI), (r.drop (byI r + 1)).map valI), []) else none)
  else if k = wF then (if (r.drop (byI r + 1)).all okQ then some (((3, (r.take (byI r)).map valI), []), (r.drop (byI r + 1)).map fun x => canD (qOf x)) else none)
  else none
theorem all_vals {l : List (List UInt8)} (h : l.all okI = true) : ∀ x ∈ l.map valI, inr x := fun x hx => by
 obtain ⟨y, hy, rfl⟩ := List.mem_map.1 hx
 exact valI_inr (List.all_eq_true.1 h y hy)
theorem rdS_can {ws : List (List UInt8)} {d : StepD} (h : rdS ws = some d) : CanS d := by
 cases ws with
 | nil => cases h
 | cons k r =>
  rw [rdS] at h
  split at h
  · cases h
  · rename_i hc
    rw [not_or] at hc
    have h1 := all_vals (by simpa using hc.1)
    split at h
    · cases h
      exact ⟨.inl ⟨rfl, rfl, rfl⟩, h1, fun x hx => (List.not_mem_nil hx).elim, fun x hx => (List.not_mem_nil hx).elim⟩
    · split at h
      · split at h
        · rename_i h2
          cases h
          exact ⟨.inr (.inl ⟨rfl, rfl⟩), h1, all_vals h2, fun x hx => (List.not_mem_nil hx).elim⟩
        · cases h
      · split at h
        · split at h
          · cases h
            refine ⟨.inr (.inr ⟨rfl, rfl⟩), h1, fun x hx => (List.not_mem_nil hx).elim, fun q hq => ?_⟩
            obtain ⟨y, hy, rfl⟩ := List.mem_map.1 hq
            show canD _ = canD (rq (canD _))
            rw [rq_can]
          · cases h
        · cases h
theorem nums_ok {l : List Int} (h : ∀ x ∈ l, inr x) : (l.map Lib.itoa).all okI = true ∧ (l.map Lib.itoa).map valI = l := by
 induction l with
 | nil => exact ⟨rfl, rfl⟩
 | cons x l ih =>
  obtain ⟨h1, h2⟩ := ih fun y hy => h y (by simp [hy])
  obtain ⟨h3, h4⟩ := okI_itoa (h x (by simp))
  exact ⟨by rw [List.map_cons, List.all_cons, h3, h1]; rfl, by rw [List.map_cons, List.map_cons, h4, h2]⟩
theorem rats_ok {l : List RatD} (h : ∀ q ∈ l, q = canD (rq q)) : (l.map fun q => tq (rq q)).all okQ = true ∧ (l.map fun q => tq (rq q)).map (fun x => canD (qOf x)) = l := by
 induction l with
 | nil => exact ⟨rfl, rfl⟩
 | cons x l ih =>
  obtain ⟨h1, h2⟩ := ih fun y hy => h y (by simp [hy])
  obtain ⟨h3, h4⟩ := okQ_tq (rq x)
  exact ⟨by rw [List.map_cons, List.all_cons, h3, h1]; rfl, by rw [List.map_cons, List.map_cons, h4, h2, ← h x (by simp)]⟩
theorem wds_free (l : List Int) : ∀ x ∈ l.map Lib.itoa, x ≠ wB := fun x hx => by
 obtain ⟨v, _, rfl⟩ := List.mem_map.1 hx
 exact itoa_by v
theorem rdS_line {d : StepD} (h : CanS d) : rdS (segsC 32 (lnP d)) = some d := by
 rw [segs_lnP]
 obtain ⟨hk, hc, hb, hq⟩ := h
 obtain ⟨⟨⟨k, c⟩, b⟩, q⟩ := d
 dsimp only at *
 obtain ⟨c1, c2⟩ := nums_ok hc
 rcases hk with ⟨rfl, rfl, rfl⟩ | ⟨rfl, rfl⟩ | ⟨rfl, rfl⟩
 · have e : byI (c.map Lib.itoa) = (c.map Lib.itoa).length := byI_free (wds_free c)
   show rdS (wI :: c.map Lib.itoa) = _
   rw [rdS, e, List.take_length, if_neg (by rw [c1]; simp), if_pos rfl, c2]
 · have e : byI (c.map Lib.itoa ++ wB :: b.map Lib.itoa) = (c.map Lib.itoa).length := byI_at (wds_free c) _
   obtain ⟨b1, b2⟩ := nums_ok hb
   show rdS (wU :: (c.map Lib.itoa ++ wB :: b.map Lib.itoa)) = _
   rw [rdS, e, List.take_left, List.drop_append, List.drop_of_length_le (by omega), if_neg (by rw [c1]; simp [wU, wI]), if_neg (by decide), if_pos rfl]
   rw [show (c.map Lib.itoa).length + 1 - (c.map Lib.itoa).length = 1 by omega, List.nil_append, List.drop_one, List.tail_cons, if_pos b1, c2, b2]
 · have e : byI (c.map Lib.itoa ++ wB :: q.map fun x => tq (rq x)) = (c.map Lib.itoa).length := byI_at (wds_free c) _
   obtain ⟨b1, b2⟩ := rats_ok hq
   show rdS (wF :: (c.map Lib.itoa ++ wB :: q.map fun x => tq (rq x))) = _
   rw [rdS, e, List.take_left, List.drop_append, List.drop_of_length_le (by omega), if_neg (by rw [c1]; simp [wF, wI]), if_neg (by decide), if_neg (by decide), if_pos rfl]
   rw [show (c.map Lib.itoa).length + 1 - (c.map Lib.itoa).length = 1 by omega, List.nil_append, List.drop_one, List.tail_cons, if_pos b1, c2, b2]
def IsStep (s : List UInt8) (d : StepD) : Prop := CanS d ∧ lnP d = s
theorem isStep_rd {s : List UInt8} {d : StepD} : IsStep s d ↔ rdS (segsC 32 s) = some d ∧ lnP d = s := by
 constructor
 · rintro ⟨h, rfl⟩; exact ⟨rdS_line h, rfl⟩
 · rintro ⟨h, e⟩; exact ⟨rdS_can h, e⟩
theorem isStep_one {s : List UInt8} {d e : StepD} (h : IsStep s d) (k : IsStep s e) : d = e := by
 have h1 := (isStep_rd.1 h).1
 rw [(isStep_rd.1 k).1] at h1
 exact (Option.some.inj h1).symm
theorem mem_snoc {α : Type} {P : α → Prop} {l : List α} {y : α} (h : ∀ x ∈ l, P x) (hy : P y) : ∀ x ∈ l ++ [y], P x := fun x hx => by
 rcases List.mem_append.1 hx with hx | hx
 · exact h x hx
 · rw [List.mem_singleton.1 hx]; exact hy
theorem idx_hex : ∀ n : Fin 256, (Lib.indexByte hexD (UInt8.ofNat n.val) = -1 ∧ ∀ k : Fin 16, hx k.val ≠ UInt8.ofNat n.val) ∨ ∃ k : Fin 16, Lib.indexByte hexD (UInt8.ofNat n.val) = (k.val : Int) ∧ hx k.val = UInt8.ofNat n.val := by decide +kernel
theorem idx_byte (c : UInt8) : (Lib.indexByte hexD c = -1 ∧ ∀ k : Nat, k < 16 → hx k ≠ c) ∨ ∃ k : Nat, k < 16 ∧ Lib.indexByte hexD c = (k : Int) ∧ hx k = c := by
 have h := idx_hex ⟨c.toNat, c.toNat_lt⟩
 rw [show UInt8.ofNat c.toNat = c by simp] at h
 rcases h with ⟨h1, h2⟩ | ⟨k, h1, h2⟩
 · exact .inl ⟨h1, fun k hk => h2 ⟨k, hk⟩⟩
 · exact .inr ⟨k.val, k.isLt, h1, h2⟩
theorem hx_inj : ∀ a b : Fin 16, hx a.val = hx b.val → a = b := by decide
theorem hxB_two (a b : Nat) (ha : a < 16) (hb : b < 16) : hxB (UInt8.ofNat (16 * a + b)) = [hx a, hx b] := by
 unfold hxB
 rw [UInt8.toNat_ofNat', Nat.mod_eq_of_lt (by omega), show (16 * a + b) / 16 = a by omega, show (16 * a + b) % 16 = b by omega]
theorem or16 : ∀ a b : Fin 16, bits BinOp.or IntKind.i64 ((a.val : Int) * 16) (b.val : Int) % 256 = ((16 * a.val + b.val : Nat) : Int) := by decide +kernel
def HexTold (c1 c2 : UInt8) (e : Ending) : Prop := (∃ b : UInt8, hxB b = [c1, c2] ∧ e = .returned (.tuple #[.int .u8 (b.toNat : Int), .bool true])) ∨ ((∀ b : UInt8, hxB b ≠ [c1, c2]) ∧ ∃ v, e = .returned (.tuple #[.int .u8 v, .bool false]))
theorem hexTold_bad {c1 c2 : UInt8} {v : Int} (h : (∀ k : Nat, k < 16 → hx k ≠ c1) ∨ (∀ k : Nat, k < 16 → hx k ≠ c2)) : HexTold c1 c2 (.returned (.tuple #[.int .u8 v, .bool false])) := .inr ⟨fun b e => by
 have hb := b.toNat_lt
 unfold hxB at e
 simp only [List.cons.injEq, and_true] at e
 rcases h with h | h
 · exact h _ (by omega) e.1
 · exact h _ (by omega) e.2, _, rfl⟩
set_option maxHeartbeats 2000000 in
set_option maxRecDepth 100000 in
theorem pr_hex (c1 c2 : UInt8) (S : ByteArray) (hsz : S.size = 2) (g0 : S[0]'(by omega) = c1) (g1 : S[1]'(by omega) = c2) (w : World) :
 Calls Tryz.prog 217 #[.string S] w fun e w' => HexTold c1 c2 e ∧ Below w.heap.size w w' := by
 have h1 := fun (W : World) => strings_IndexByte ⟨#[48, 49, 50, 51, 52, 53, 54, 55, 56, 57, 97, 98, 99, 100, 101, 102]⟩ (c1.toNat : Int) W
 have h2 := fun (W : World) => strings_IndexByte ⟨#[48, 49, 50, 51, 52, 53, 54, 55, 56, 57, 97, 98, 99, 100, 101, 102]⟩ (c2.toNat : Int) W
 have e0 : ∀ c : UInt8, Lib.indexByte (⟨#[48, 49, 50, 51, 52, 53, 54, 55, 56, 57, 97, 98, 99, 100, 101, 102]⟩ : ByteArray).data.toList ((c.toNat : Int).toNat.toUInt8) = Lib.indexByte hexD c := fun c => by
  rw [show ((c.toNat : Int).toNat.toUInt8) = c from by simp]; rfl
 rw [e0] at h1 h2
 have d1 := idx_byte c1
 have d2 := idx_byte c2
 generalize Lib.indexByte hexD c1 = i1 at *
 generalize Lib.indexByte hexD c2 = i2 at *
 have H1 := Lib.hid h1
 have H2 := Lib.hid h2
 have D1 := Lib.hid d1
 have D2 := Lib.hid d2
 clear h1 h2 d1 d2 e0
 have hsz2 : ((S.size : Int) != 2) = false := by rw [hsz]; rfl
 go_enter Tryz.func217, Tryz.ntmps217
 go_upto_region 3 with fail
 have h1 := H1.out
 have h2 := H2.out
 go_quiet (first | (go_at_call 259; first | refine Calls.quiet_of_same (h1 _) | refine Calls.quiet_of_same (h2 _)))
 have HBel := Lib.hid (below_drewN (Below.refl w.heap.size w) nq)
 clear h1 h2 H1 H2
 rcases D1.out with ⟨rfl, hb⟩ | ⟨k1, hk1, rfl, e1⟩
 · have HX := Lib.hid hb
   clear hb D1 D2
   go_wp2
   go_ret2
   exact ⟨hexTold_bad (.inl HX.out), HBel.out⟩
 · have hk1z : (0 : Int) ≤ (k1 : Int) := by omega
   rcases D2.out with ⟨rfl, hb⟩ | ⟨k2, hk2, rfl, e2⟩
   · have HX := Lib.hid hb
     clear hb D1 D2
     go_wp2
     go_ret2
     exact ⟨hexTold_bad (.inr HX.out), HBel.out⟩
   · have hk2z : (0 : Int) ≤ (k2 : Int) := by omega
     have hor := or16 ⟨k1, hk1⟩ ⟨k2, hk2⟩
     dsimp only at hor
     have HX := Lib.hid (show HexTold c1 c2 (.returned (.tuple #[.int .u8 ((16 * k1 + k2 : Nat) : Int), .bool true])) from
      .inl ⟨UInt8.ofNat (16 * k1 + k2), by rw [hxB_two k1 k2 hk1 hk2, e1, e2], by rw [UInt8.toNat_ofNat', Nat.mod_eq_of_lt (by omega)]⟩)
     rw [← hor] at HX
     clear D1 D2 e1 e2 hor
     go_wp2
     go_ret2
     exact ⟨HX.out, HBel.out⟩
theorem hxB_inj {a b : UInt8} (h : hxB a = hxB b) : a = b := by
 unfold hxB at h
 simp only [List.cons.injEq, and_true] at h
 have ha := a.toNat_lt
 have hb := b.toNat_lt
 have h1 := hx_inj ⟨a.toNat / 16, by omega⟩ ⟨b.toNat / 16, by omega⟩ h.1
 have h2 := hx_inj ⟨a.toNat % 16, by omega⟩ ⟨b.toNat % 16, by omega⟩ h.2
 simp only [Fin.mk.injEq] at h1 h2
 exact UInt8.toNat_inj.1 (by omega)
theorem hexN_cons (b : UInt8) (l : List UInt8) : hexN (b :: l) = hxB b ++ hexN l := by unfold hexN; rw [List.flatMap_cons]
theorem hexN_inj : ∀ {l m : List UInt8}, hexN l = hexN m → l = m
 | [], [], _ => rfl
 | [], b :: m, h => by rw [hexN_cons] at h; simp [hexN, hxB] at h
 | a :: l, [], h => by rw [hexN_cons] at h; simp [hexN, hxB] at h
 | a :: l, b :: m, h => by
  rw [hexN_cons, hexN_cons] at h
  obtain ⟨h1, h2⟩ := List.append_inj h rfl
  rw [hxB_inj h1, hexN_inj h2]
theorem hx_free : ∀ a : Fin 16, hx a.val ≠ 32 := by decide
theorem hexN_free32 (l : List UInt8) : freeC 32 (hexN l) := fun b hb => by
 unfold hexN at hb
 obtain ⟨a, _, ha⟩ := List.mem_flatMap.1 hb
 have hlt := a.toNat_lt
 unfold hxB at ha
 simp only [List.mem_cons, List.not_mem_nil, or_false] at ha
 rcases ha with rfl | rfl
 · exact hx_free ⟨_, by omega⟩
 · exact hx_free ⟨_, by omega⟩
def wT : List UInt8 := [116, 114, 117, 101]
def wBo : List UInt8 := [98, 111, 111, 108]
def tokT : AtomD := (((⟨#[]⟩, []), canD 0), false)
def tokB (n : List UInt8) : AtomD := (((⟨n.toArray⟩, []), canD 0), false)
abbrev tokL (l : Frm) (q : Rat) (st : Bool) : AtomD := tokA ⟨#[]⟩ l q st
def sgW (st : Bool) : List UInt8 := if st then [60] else [60, 61]
theorem lnA_T : lnA tokT = wT := rfl
theorem lnA_B {n : List UInt8} (h : n ≠ []) : lnA (tokB n) = joinC 32 [wBo, hexN n] := by
 have hd : ¬ (tokB n).1.1.1.data = #[] := fun e => h (by have := congrArg Array.toList e; simpa [tokB] using this)
 unfold lnA
 rw [if_neg hd]
 simp [tokB, joinC, wBo]
theorem nf_can {l : Frm} (h : CanF l) : nform (fval (l.map canM)) = l := by rw [fval_can, nform_self h.nf]
theorem lnA_L {l : Frm} {q : Rat} {st : Bool} (h : CanF l) (hl : l ≠ []) : lnA (tokL l q st) = joinC 32 [sgW st, tf l, tq q] := by
 have h1 : (tokL l q st).1.1.2.length ≠ 0 := by
  show (l.map canM).length ≠ 0
  rw [List.length_map]
  exact fun e => hl (List.eq_nil_of_length_eq_zero e)
 unfold lnA
 rw [if_pos rfl, if_neg h1]
 show (if st then ([60, 32] : List UInt8) else [60, 61, 32]) ++ (tf (nform (fval (l.map canM))) ++ 32 :: tq (rq (canD q))) = _
 rw [nf_can h, rq_can]
 cases st <;> simp [joinC, sgW]
theorem segs_B (n : List UInt8) : segsC 32 (joinC 32 [wBo, hexN n]) = [wBo, hexN n] := segsC_join 32 _ (by simp) fun x hx => by
 simp only [List.mem_cons, List.not_mem_nil, or_false] at hx
 rcases hx with rfl | rfl
 · unfold freeC wBo; decide
 · exact hexN_free32 n
theorem segs_L (l : Frm) (q : Rat) (st : Bool) : segsC 32 (joinC 32 [sgW st, tf l, tq q]) = [sgW st, tf l, tq q] := segsC_join 32 _ (by simp) fun x hx => by
 simp only [List.mem_cons, List.not_mem_nil, or_false] at hx
 rcases hx with rfl | rfl | rfl
 · unfold freeC sgW; cases st <;> decide
 · exact tf_free32 l
 · exact tq_free32 q
def CanA (d : AtomD) : Prop := d = tokT ∨ (∃ n, n ≠ [] ∧ d = tokB n) ∨ ∃ l q st, l ≠ [] ∧ CanF l ∧ d = tokL l q st
def IsAtom (s : List UInt8) (d : AtomD) : Prop := CanA d ∧ lnA d = s
noncomputable def okH (x : List UInt8) : Bool := @decide (∃ n, x = hexN n) (Classical.propDecidable _)
noncomputable def valH (x : List UInt8) : List UInt8 := @dite _ (∃ n, x = hexN n) (Classical.propDecidable _) (fun h => h.choose) (fun _ => [])
theorem okH_hex (n : List UInt8) : okH (hexN n) = true ∧ valH (hexN n) = n := by
 have h : ∃ p, hexN n = hexN p := ⟨n, rfl⟩
 constructor
 · unfold okH; exact @decide_eq_true _ (Classical.propDecidable _) h
 · unfold valH; rw [dif_pos h]; exact hexN_inj h.choose_spec.symm
theorem okH_val {x : List UInt8} (h : okH x = true) : x = hexN (valH x) := by
 unfold okH at h
 obtain ⟨n, rfl⟩ := @of_decide_eq_true _ (Classical.propDecidable _) h
 rw [(okH_hex n).2]
noncomputable def okF (x : List UInt8) : Bool := @decide (∃ l, CanF l ∧ x = tf l) (Classical.propDecidable _)
noncomputable def valF (x : List UInt8) : Frm := @dite _ (∃ l, CanF l ∧ x = tf l) (Classical.propDecidable _) (fun h => h.choose) (fun _ => [])
theorem okF_tf {l : Frm} (hl : CanF l) : okF (tf l) = true ∧ valF (tf l) = l := by
 have h : ∃ p, CanF p ∧ tf l = tf p := ⟨l, hl, rfl⟩
 constructor
 · unfold okF; exact @decide_eq_true _ (Classical.propDecidable _) h
 · unfold valF; rw [dif_pos h]; exact tf_inj h.choose_spec.2.symm
theorem okF_val {x : List UInt8} (h : okF x = true) : CanF (valF x) ∧ x = tf (valF x) := by
 unfold okF at h
 obtain ⟨n, hn, rfl⟩ := @of_decide_eq_true _ (Classical.propDecidable _) h
 rw [(okF_tf hn).2]
 exact ⟨hn, rfl⟩
theorem okQ_val {x : List UInt8} (h : okQ x = true) : x = tq (qOf x) := by
 unfold okQ at h
 obtain ⟨q, rfl⟩ := @of_decide_eq_true _ (Classical.propDecidable _) h
 rw [(okQ_tq q).2]
noncomputable def rdW : List (List UInt8) → Option AtomD
 | [k, x] => if k = wBo ∧ okH x = true then some (tokB (valH x)) else none
 | [k, x, y] => if (k = [60] ∨ k = [60, 61]) ∧ okF x = true ∧ okQ y = true then some (tokL (valF x) (qOf y) (decide (k = [60]))) else none
 | _ => none
noncomputable def rdA (s : List UInt8) : Option AtomD := if s = wT then some tokT else rdW (segsC 32 s)
theorem rdW_some {ws : List (List UInt8)} {d : AtomD} (h : rdW ws = some d) : (∃ n, ws = [wBo, hexN n] ∧ d = tokB n) ∨ ∃ l q st, CanF l ∧ ws = [sgW st, tf l, tq q] ∧ d = tokL l q st := by
 unfold rdW at h
 split at h
 · split at h
   · rename_i hc
     cases h
     exact .inl ⟨_, by rw [hc.1, ← okH_val hc.2], rfl⟩
   · cases h
 · split at h
   · rename_i k x y hc
     cases h
     obtain ⟨c1, c2, c3⟩ := hc
     obtain ⟨f1, f2⟩ := okF_val c2
     refine .inr ⟨_, _, _, f1, ?_, rfl⟩
     rw [← f2, ← okQ_val c3]
     rcases c1 with rfl | rfl <;> rfl
   · cases h
 · cases h
theorem rdW_B (n : List UInt8) : rdW [wBo, hexN n] = some (tokB n) := by
 show (if wBo = wBo ∧ okH (hexN n) = true then some (tokB (valH (hexN n))) else none) = _
 rw [if_pos ⟨rfl, (okH_hex n).1⟩, (okH_hex n).2]
theorem rdW_L {l : Frm} {q : Rat} {st : Bool} (h : CanF l) : rdW [sgW st, tf l, tq q] = some (tokL l q st) := by
 show (if (sgW st = [60] ∨ sgW st = [60, 61]) ∧ okF (tf l) = true ∧ okQ (tq q) = true then some (tokL (valF (tf l)) (qOf (tq q)) (decide (sgW st = [60]))) else none) = _
 rw [if_pos ⟨by cases st <;> simp [sgW], (okF_tf h).1, (okQ_tq q).1⟩, (okF_tf h).2, (okQ_tq q).2]
 cases st <;> rfl
theorem isAtom_rd {s : List UInt8} {d : AtomD} : IsAtom s d ↔ rdA s = some d ∧ lnA d = s := by
 unfold rdA
 constructor
 · rintro ⟨h, rfl⟩
   refine ⟨?_, rfl⟩
   rcases h with rfl | ⟨n, hn, rfl⟩ | ⟨l, q, st, hl, hc, rfl⟩
   · rw [if_pos lnA_T]
   · have h1 : joinC 32 [wBo, hexN n] ≠ wT := fun e => by
      have := congrArg List.head? e
      simp [joinC, wBo, wT] at this
     rw [lnA_B hn, if_neg h1, segs_B, rdW_B]
   · have h1 : joinC 32 [sgW st, tf l, tq q] ≠ wT := fun e => by
      have := congrArg List.head? e
      cases st <;> simp [joinC, sgW, wT] at this
     rw [lnA_L hc hl, if_neg h1, segs_L, rdW_L hc]
 · rintro ⟨h, e⟩
   split at h
   · cases h
     exact ⟨.inl rfl, e⟩
   · rename_i hs
     rcases rdW_some h with ⟨n, _, rfl⟩ | ⟨l, q, st, hc, _, rfl⟩
     · by_cases hn : n = []
       · subst hn
         exact absurd (e.symm.trans lnA_T) hs
       · exact ⟨.inr (.inl ⟨n, hn, rfl⟩), e⟩
     · by_cases hl : l = []
       · subst hl
         exact absurd (e.symm.trans (show lnA (tokL [] q st) = wT from rfl)) hs
       · exact ⟨.inr (.inr ⟨l, q, st, hl, hc, rfl⟩), e⟩
theorem isAtom_one {s : List UInt8} {d e : AtomD} (h : IsAtom s d) (k : IsAtom s e) : d = e := by
 have h1 := (isAtom_rd.1 h).1
 rw [(isAtom_rd.1 k).1] at h1
 exact (Option.some.inj h1).symm
theorem mayA_nil {q : Rat} {st : Bool} : mayA (tokL [] q st) = false := by
 cases h : mayA (tokL [] q st) with
 | false => rfl
 | true =>
  unfold mayA at h
  rw [if_pos rfl] at h
  simp only [Bool.and_eq_true, decide_eq_true_eq] at h
  exact absurd h.2.1 (by decide)
theorem mayA_T : mayA tokT = false := mayA_nil
theorem truth_T : truthA tokT = true := by
 unfold truthA tokT
 simp
def wR : List UInt8 := [114, 101, 102, 117, 116, 97, 116, 105, 111, 110]
def IsHead (s : List UInt8) (a b : Int) : Prop := s = headT a b ∧ inr a ∧ inr b ∧ 1 ≤ a ∧ a ≤ 262144 ∧ 0 ≤ b
theorem headT_join (a b : Int) : headT a b = joinC 32 [wR, Lib.itoa a, Lib.itoa b] := by unfold headT; simp [joinC, wR]
theorem segs_head (a b : Int) : segsC 32 (headT a b) = [wR, Lib.itoa a, Lib.itoa b] := by
 rw [headT_join]
 refine segsC_join 32 _ (by simp) fun x hx => ?_
 simp only [List.mem_cons, List.not_mem_nil, or_false] at hx
 rcases hx with rfl | rfl | rfl
 · unfold freeC wR; decide
 · exact itoa_free32 a
 · exact itoa_free32 b
theorem isHead_one {s : List UInt8} {a b c d : Int} (h : IsHead s a b) (k : IsHead s c d) : a = c ∧ b = d := by
 have h1 := segs_head a b
 rw [← h.1, k.1, segs_head c d] at h1
 simp only [List.cons.injEq, and_true, true_and] at h1
 exact ⟨(itoa_inj h1.1).symm, (itoa_inj h1.2).symm⟩
structure Ps where
 beg : Bool
 na : Int
 ns : Int
 al : List AtomD
 sl : List StepD
def Ps.init : Ps := ⟨false, 0, 0, [], []⟩
def NextOk (t : Ps) (s : List UInt8) (u : Ps) : Prop :=
 if t.beg = false then ∃ a b, IsHead s a b ∧ u = ⟨true, a, b, [], []⟩
 else if (t.al.length : Int) < t.na then ∃ d, IsAtom s d ∧ (if t.al.length = 0 then truthA d = true else mayA d = true) ∧ lnA d ∉ t.al.map lnA ∧ u = ⟨t.beg, t.na, t.ns, t.al ++ [d], t.sl⟩
 else if (t.sl.length : Int) < t.ns then ∃ d, IsStep s d ∧ mayS d t.sl.length t.na.toNat = true ∧ u = ⟨t.beg, t.na, t.ns, t.al, t.sl ++ [d]⟩
 else False
theorem next_one {t u v : Ps} {s : List UInt8} (h : NextOk t s u) (k : NextOk t s v) : u = v := by
 unfold NextOk at h k
 split at h
 · rename_i hc
   rw [if_pos hc] at k
   obtain ⟨a, b, h1, rfl⟩ := h
   obtain ⟨c, d, k1, rfl⟩ := k
   obtain ⟨rfl, rfl⟩ := isHead_one h1 k1
   rfl
 · rename_i hc
   rw [if_neg hc] at k
   split at h
   · rename_i hc2
     rw [if_pos hc2] at k
     obtain ⟨d, h1, _, _, rfl⟩ := h
     obtain ⟨e, k1, _, _, rfl⟩ := k
     rw [isAtom_one h1 k1]
   · rename_i hc2
     rw [if_neg hc2] at k
     split at h
     · rename_i hc3
       rw [if_pos hc3] at k
       obtain ⟨d, h1, _, rfl⟩ := h
       obtain ⟨e, k1, _, rfl⟩ := k
       rw [isStep_one h1 k1]
     · exact h.elim
noncomputable def nxP (t : Ps) (s : List UInt8) : Option Ps := @dite _ (∃ u, NextOk t s u) (Classical.propDecidable _) (fun h => some h.choose) (fun _ => none)
theorem nxt_some {t u : Ps} {s : List UInt8} (h : NextOk t s u) : nxP t s = some u := by
 have hx : ∃ u, NextOk t s u := ⟨u, h⟩
 unfold nxP
 rw [dif_pos hx, next_one hx.choose_spec h]
theorem nxt_none {t : Ps} {s : List UInt8} (h : ∀ u, ¬ NextOk t s u) : nxP t s = none := by
 unfold nxP
 rw [dif_neg (fun ⟨u, hu⟩ => h u hu)]
theorem nxt_ok {t u : Ps} {s : List UInt8} (h : nxP t s = some u) : NextOk t s u := by
 unfold nxP at h
 split at h
 · rename_i hx
   cases h
   exact hx.choose_spec
 · cases h
noncomputable def runP : Ps → Nat → List (List UInt8) → Ps ⊕ Nat
 | t, _, [] => .inl t
 | t, i, s :: r => match nxP t s with
  | none => .inr (i + 1)
  | some u => runP u (i + 1) r
theorem runP_step : ∀ (a b : List (List UInt8)) (t u : Ps) (k : Nat), runP t k a = .inl u → runP t k (a ++ b) = runP u (k + a.length) b
 | [], b, t, u, k, h => by rw [runP] at h; cases h; rfl
 | x :: r, b, t, u, k, h => by
  rw [List.cons_append, runP]
  rw [runP] at h
  cases hx : nxP t x with
  | none => rw [hx] at h; cases h
  | some s =>
   rw [hx] at h
   simp only at h ⊢
   rw [runP_step r b s u (k + 1) h]
   congr 1
   rw [List.length_cons]; omega
theorem runP_take {ls : List (List UInt8)} {t u : Ps} {i : Nat} (hi : i < ls.length) (h : runP t 0 (ls.take i) = .inl u) : runP t 0 (ls.take (i + 1)) = match nxP u ls[i] with
 | none => .inr (i + 1)
 | some v => .inl v := by
 rw [List.take_succ_eq_append_getElem hi, runP_step _ _ _ _ _ h, List.length_take, Nat.min_eq_left (by omega), Nat.zero_add, runP]
 cases nxP u ls[i] <;> rfl
theorem runP_next {ls : List (List UInt8)} {t u v : Ps} {i : Nat} (hi : i < ls.length) (h : runP t 0 (ls.take i) = .inl u) (hn : nxP u ls[i] = some v) : runP t 0 (ls.take (i + 1)) = .inl v := by
 rw [runP_take hi h, hn]
theorem runP_stop {ls : List (List UInt8)} {t u : Ps} {i : Nat} (hi : i < ls.length) (h : runP t 0 (ls.take i) = .inl u) (hn : nxP u ls[i] = none) : runP t 0 ls = .inr (i + 1) := by
 have e : ls = ls.take i ++ (ls[i] :: ls.drop (i + 1)) := by rw [List.getElem_cons_drop, List.take_append_drop]
 have : runP t 0 ls = runP t 0 (ls.take i ++ (ls[i] :: ls.drop (i + 1))) := by rw [← e]
 rw [this, runP_step _ _ _ _ _ h, List.length_take, Nat.min_eq_left (by omega), Nat.zero_add, runP, hn]
noncomputable def parseV (s : List UInt8) : RefD ⊕ Nat :=
 match runP Ps.init 0 (segsC 10 s).dropLast with
 | .inr k => .inr k
 | .inl t => if (segsC 10 s).getLast (segsC_ne 10 s) ≠ [] ∨ t.beg = false ∨ (t.al.length : Int) < t.na ∨ (t.sl.length : Int) < t.ns then .inr (segsC 10 s).length else .inl (t.al, t.sl)
structure Fine (t : Ps) : Prop where
 none : t.beg = false → t = Ps.init
 many : t.beg = true → 1 ≤ t.na ∧ t.na ≤ 262144 ∧ 0 ≤ t.ns ∧ inr t.ns
 atoms : (t.al.length : Int) ≤ t.na
 steps : (t.sl.length : Int) ≤ t.ns
 full : t.sl ≠ [] → (t.al.length : Int) = t.na
 canA : ∀ a ∈ t.al, CanA a
 canS : ∀ a ∈ t.sl, CanS a
 tab : TabK t.al t.al.length
 tru : ∀ h : 0 < t.al.length, truthA t.al[0] = true
 may : ∀ i (h : i < t.sl.length), mayS t.sl[i] i t.na.toNat = true
theorem Fine.init : Fine Ps.init where
 none := fun _ => rfl
 many := fun h => by cases h
 atoms := Int.le_refl _
 steps := Int.le_refl _
 full := fun h => absurd rfl h
 canA := fun a h => (List.not_mem_nil h).elim
 canS := fun a h => (List.not_mem_nil h).elim
 tab := fun j h => absurd h (Nat.not_lt_zero _)
 tru := fun h => absurd h (Nat.not_lt_zero _)
 may := fun i h => absurd h (Nat.not_lt_zero _)
end Go.Proofs.YtidgpkccjcddgaaGreatDoor.F

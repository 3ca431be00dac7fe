/- proof.Print. Condition: refutations of weight at most 1048576; the table of powers lies as laid. -/
import Derived.Test.YtidgpkccjcddgaaGreatDoorGy
set_option linter.unusedVariables false
set_option linter.unusedSimpArgs false
namespace Go.Proofs.YtidgpkccjcddgaaGreatDoor.F
open Go.RowKit Go.Shelf Go.Proofs.YtidgpkccjcddgaaGreatDoorW.PrintLast
noncomputable def prS (r : RefD) : List UInt8 := if vldE r = 0 then prT r else []
theorem vldE_three (r : RefD) : vldE r = 0 ∨ (vldE r ≠ 0 ∧ (vldE r == 0) = false) := by
 by_cases h : vldE r = 0
 · exact .inl h
 · exact .inr ⟨h, by simpa using h⟩
theorem headT_len (a s : Int) (ha : inr a) (hs : inr s) : (headT a s).length ≤ 60 := by
 have h1 := itoa_len21 ha
 have h2 := itoa_len21 hs
 unfold headT
 simp only [List.length_append, List.length_cons, List.length_nil]
 omega
theorem RefIn.lines {w : World} {r : RefD} {A : Option Addr} {c : Nat} {B : Option Addr} {d : Nat} (h : RefIn w r A c B d) : (∀ i, (linesA (r.1.take i)).length ≤ 847249408) ∧ (∀ i, (linesS (r.2.take i)).length ≤ 847249408) := by
 have h1 := linesA_len h.goodA
 have h2 := linesS_len h.goodS
 have h3 := h.few
 exact ⟨fun i => by have := linesA_le r.1 i; omega, fun i => by have := linesS_le r.2 i; omega⟩
set_option maxHeartbeats 4000000 in
set_option maxRecDepth 100000 in
theorem pr_Print (r : RefD) (A : Option Addr) (c : Nat) (B : Option Addr) (d : Nat) (w : World) (h : RefIn w r A c B d) (ht : PowTab w) :
 Calls Tryz.prog 12 #[.agg #[.slice A r.1.length c, .slice B r.2.length d]] w (fun e' w' => e' = .returned (.tuple #[.string ⟨(prS r).toArray⟩, .int .i64 (vldE r)]) ∧ Below w.heap.size w w') := by
 have hl := h.lens
 have hc1 := h.capA
 have hc2 := h.capS
 have hV := Lib.hid (fun (W : World) (hb : Below w.heap.size w W) => pr_Valid r A c B d W (h.below hb))
 have hH := Lib.hid (fun (W : World) (hb : Below w.heap.size w W) => pr_head (r.1.length : Int) (r.2.length : Int) (by unfold inr; omega) (by unfold inr; omega) W (ht.below hb))
 have hhl := headT_len (r.1.length : Int) (r.2.length : Int) (by unfold inr; omega) (by unfold inr; omega)
 have HAt := Lib.hid (fun (i : Nat) (hi : i < r.1.length) => atIn_row h.rowA h.goodA i hi)
 have HSt := Lib.hid (fun (i : Nat) (hi : i < r.2.length) => stIn_row h.rowS h.goodS i hi)
 have HLa := Lib.hid h.lines.1
 have HLs := Lib.hid h.lines.2
 have HTa := Lib.hid (fun (i : Nat) (hi : i < r.1.length) => linesA_take r.1 i hi)
 have HTs := Lib.hid (fun (i : Nat) (hi : i < r.2.length) => linesS_take r.2 i hi)
 have HPT := Lib.hid ht
 clear h ht
 obtain ⟨ps, hps⟩ : ∃ ps, ps = prS r := ⟨_, rfl⟩
 rw [← hps]
 unfold prS prT at hps
 have HPs := Lib.hid hps
 clear hps
 generalize headT (r.1.length : Int) (r.2.length : Int) = hd at *
 have h3 := vldE_three r
 generalize vldN r = vn at *
 generalize vldE r = ve at *
 have HF := Lib.hid ((Fr.refl w).box [.slice A r.1.length c, .slice B r.2.length d] 25)
 simp only [List.toArray] at HF
 go_enter Tryz.func12, Tryz.ntmps12
 go_upto_region 1 with fail
 generalize hgt : World.alloc _ _ = W at HF ⊢
 clear hgt
 have a0 := HF.out.cellN 0 rfl 0 rfl
 have a1 := HF.out.cellN 0 rfl 1 rfl
 go_wp2_with fail
 refine (hV.out _ HF.out.bel).mono ?_
 rintro e' W2 ⟨rfl, hb⟩
 replace HF := Lib.hid (HF.out.below hb)
 clear hb hV a0 a1
 rcases h3 with rfl | ⟨h3, h3b⟩
 · have HP2 := Lib.hid (show hd ++ ([10] ++ (linesA r.1 ++ linesS r.2)) = ps from by rw [HPs.out, if_pos rfl])
   clear HPs
   go_upto_region 4 with fail
   have HBd := Lib.hid (bld_new W2)
   have HB := Lib.hid ((Below.refl _ W2).alloc (Nat.le_refl _) (.cells #[.pointer none, .slice none 0 0] 91))
   have hwb : w.heap.size ≤ W2.heap.size := HF.out.bel.size
   go_upto_region 5 with fail
   generalize W2.alloc _ = W3 at HBd HB ⊢
   have HC := Lib.hid (fun (wr : World) (hb : Below W2.heap.size W2 wr) => And.intro (cell_below hb (HF.out.cellN 0 rfl 0 rfl)) (cell_below hb (HF.out.cellN 0 rfl 1 rfl)))
   have HW := Lib.hid (fun (wr : World) (hb : Below W2.heap.size W2 wr) => HF.out.bel.trans (hb.mono hwb))
   clear HF
   have HSz := Lib.hid (fun (wr : World) (hb : Below W2.heap.size W2 wr) => hb.size)
   generalize W2.heap.size = b at *
   obtain ⟨a0, a1⟩ := HC.out _ HB.out
   go_wp2_with fail
   refine (hH.out _ (HW.out _ HB.out)).mono ?_
   rintro e' W4 ⟨rfl, hb⟩
   replace HBd := Lib.hid (bld_below HBd.out hb)
   have hbr := HSz.out _ HB.out
   have hbr3 := hb.size
   replace HB := Lib.hid (HB.out.trans (hb.mono (by omega)))
   have hWr := Lib.hid (bld_Write b b [] (hd ++ [10]) W4 HBd.out (by simp only [List.length_append, List.length_cons, List.length_nil]; omega) (by omega))
   have HE := Lib.hid (show (⟨(hd ++ [10]).toArray⟩ : ByteArray) = ⟨hd.toArray⟩ ++ ⟨#[10]⟩ from by rw [show (⟨#[10]⟩ : ByteArray) = ⟨[10].toArray⟩ from rfl, str_append])
   rw [HE.out, List.nil_append] at hWr
   clear hb hH HBd HE a0 a1
   go_wp2_with fail
   refine hWr.out.mono ?_
   rintro e' W5 ⟨⟨v5, rfl⟩, h6, hb⟩
   have HBd := Lib.hid h6
   replace HB := Lib.hid (HB.out.trans hb)
   clear h6 hb hWr hbr hbr3
   obtain ⟨p0, hp0⟩ : ∃ p0, p0 = hd ++ [10] := ⟨_, rfl⟩
   rw [← hp0] at HBd
   have hp0l := congrArg List.length hp0
   simp only [List.length_append, List.length_cons, List.length_nil] at hp0l
   have HP3 := Lib.hid (show p0 ++ (linesA r.1 ++ linesS r.2) = ps from by rw [← HP2.out, hp0]; simp)
   clear hp0 HP2
   obtain ⟨a0, a1⟩ := HC.out _ HB.out
   go_wp2_with fail
   clear a0 a1
   go_loopg [31] r.1.length (fun gg s wr => ∃ i : Nat, i + gg = r.1.length ∧ s = .int .i64 i ∧ Hid (Lib.IsBuilder 91 5 b b (Lib.byteCells (p0 ++ linesA (r.1.take i))) wr) ∧ Hid (Below b W2 wr))
   case atStart => exact ⟨0, by omega, rfl, by show Lib.IsBuilder _ _ _ _ _ _; simpa [linesA] using HBd.out, HB.out⟩
   case round =>
   clear HBd HB
   obtain ⟨i, hgg, rfl, HBd, HB⟩ := hrel
   by_cases hlt : i < r.1.length
   · have hltz : (i : Int) < (r.1.length : Int) := by omega
     obtain ⟨ad, E1, c1, B1, d1, D1, e1, rfl, q0, q1, q2, q3, q4, q5, ha, hns⟩ := HAt.out i hlt
     have hX := Lib.hid (fun (W : World) (hb : Below w.heap.size w W) => pr_atomText r.1[i] E1 c1 B1 d1 D1 e1 W (ha.below hb).x hns)
     unfold atc at hX
     simp only [List.toArray] at hX
     have hbw := HW.out _ HB.out
     have x0 := cell_below hbw q0
     have x1 := cell_below hbw q1
     have x2 := cell_below hbw q2
     have x3 := cell_below hbw q3
     have x4 := cell_below hbw q4
     have x5 := cell_below hbw q5
     clear q0 q1 q2 q3 q4 q5 ha hns hbw
     have hln := HLa.out (i + 1)
     have HS := Lib.hid (HTa.out i hlt)
     rw [HS.out] at hln
     simp only [List.length_append, List.length_cons, List.length_nil] at hln
     generalize lnA r.1[i] = ln at *
     generalize r.1[i] = a at *
     have HFb := Lib.hid ((show Fr w wr [] from ⟨HW.out _ HB.out, fun p hp => by cases hp⟩).box [.string a.1.1.1, .slice E1 a.1.1.2.length c1, .bool a.1.2.1.1, .slice B1 a.1.2.1.2.length d1, .slice D1 a.1.2.2.length e1, .bool a.2] 84)
     have HBa := Lib.hid ((Below.refl _ wr).alloc (Nat.le_refl _) (.cells #[.string a.1.1.1, .slice E1 a.1.1.2.length c1, .bool a.1.2.1.1, .slice B1 a.1.2.1.2.length d1, .slice D1 a.1.2.2.length e1, .bool a.2] 84))
     replace HBd := Lib.hid (bld_below HBd.out HBa.out)
     have hbr := HSz.out _ HB.out
     have hbr2 := HBa.out.size
     replace HB := Lib.hid (HB.out.trans (HBa.out.mono (by omega)))
     simp only [List.toArray] at HFb
     clear HBa
     go_upto_region 9 with fail
     generalize hgt : World.alloc wr _ = W at HFb HBd HB hbr2 ⊢
     clear hgt x0 x1 x2 x3 x4 x5
     have x0 := HFb.out.cellN 0 rfl 0 rfl
     have x1 := HFb.out.cellN 0 rfl 1 rfl
     have x2 := HFb.out.cellN 0 rfl 2 rfl
     have x3 := HFb.out.cellN 0 rfl 3 rfl
     have x4 := HFb.out.cellN 0 rfl 4 rfl
     have x5 := HFb.out.cellN 0 rfl 5 rfl
     go_wp2_with fail
     refine (hX.out _ HFb.out.bel).mono ?_
     rintro e' W5 ⟨rfl, hb⟩
     replace HBd := Lib.hid (bld_below HBd.out hb)
     have hbr3 := hb.size
     replace HB := Lib.hid (HB.out.trans (hb.mono (by omega)))
     have hWr := Lib.hid (bld_Write b b (p0 ++ linesA (r.1.take i)) (ln ++ [10]) W5 HBd.out (by simp only [List.length_append, List.length_cons, List.length_nil]; omega) (by omega))
     have HE := Lib.hid (show (⟨(ln ++ [10]).toArray⟩ : ByteArray) = ⟨ln.toArray⟩ ++ ⟨#[10]⟩ from by rw [show (⟨#[10]⟩ : ByteArray) = ⟨[10].toArray⟩ from rfl, str_append])
     rw [HE.out] at hWr
     have HN := Lib.hid (show p0 ++ linesA (r.1.take i) ++ (ln ++ [10]) = p0 ++ linesA (r.1.take (i + 1)) from by rw [HS.out]; simp)
     rw [HN.out] at hWr
     clear hb hX HFb HE HN HS HBd x0 x1 x2 x3 x4 x5
     go_wp2_with fail
     refine hWr.out.mono ?_
     rintro e' W6 ⟨⟨v6, rfl⟩, h6, hb⟩
     have HBd := Lib.hid h6
     replace HB := Lib.hid (HB.out.trans hb)
     clear h6 hb hWr
     go_wp2
     go_roundg (r.1.length - (i + 1))
     case measure => omega
     case rel => exact ⟨i + 1, by omega, by go_num, HBd, HB⟩
   have hltz : ¬ (i : Int) < (r.1.length : Int) := by omega
   have HEq := Lib.hid (show r.1.take i = r.1 from List.take_of_length_le (by omega))
   rw [HEq.out] at HBd
   clear HEq
   obtain ⟨p1, hp1⟩ : ∃ p1, p1 = p0 ++ linesA r.1 := ⟨_, rfl⟩
   rw [← hp1] at HBd
   have hp1l := congrArg List.length hp1
   have hla := HLa.out r.1.length
   rw [List.take_of_length_le (Nat.le_refl _)] at hla
   simp only [List.length_append] at hp1l
   have HP4 := Lib.hid (show p1 ++ linesS r.2 = ps from by rw [← HP3.out, hp1]; simp)
   clear hp1 HP3 HTa HLa HAt
   obtain ⟨a0, a1⟩ := HC.out _ HB.out
   go_wp2_with fail
   clear a0 a1
   go_loopg [44] r.2.length (fun gg s wr => ∃ i : Nat, i + gg = r.2.length ∧ s = .int .i64 i ∧ Hid (Lib.IsBuilder 91 5 b b (Lib.byteCells (p1 ++ linesS (r.2.take i))) wr) ∧ Hid (Below b W2 wr))
   case atStart => exact ⟨0, by omega, rfl, by show Lib.IsBuilder _ _ _ _ _ _; simpa [linesS] using HBd.out, HB.out⟩
   case round =>
   clear HBd HB
   obtain ⟨i, hgg, rfl, HBd, HB⟩ := hrel
   by_cases hlt : i < r.2.length
   · have hltz : (i : Int) < (r.2.length : Int) := by omega
     obtain ⟨ad, A1, c1, B1, d1, D1, e1, rfl, q0, q1, q2, q3, hst⟩ := HSt.out i hlt
     have hX := Lib.hid (fun (W : World) (hb : Below w.heap.size w W) => pr_stepText r.2[i] A1 c1 B1 d1 D1 e1 W (hst.below hb) (HPT.out.below hb))
     unfold stc at hX
     simp only [List.toArray] at hX
     have hbw := HW.out _ HB.out
     have x0 := cell_below hbw q0
     have x1 := cell_below hbw q1
     have x2 := cell_below hbw q2
     have x3 := cell_below hbw q3
     clear q0 q1 q2 q3 hst hbw
     have hln := HLs.out (i + 1)
     have HS := Lib.hid (HTs.out i hlt)
     rw [HS.out] at hln
     simp only [List.length_append, List.length_cons, List.length_nil] at hln
     generalize lnP r.2[i] = ln at *
     generalize r.2[i] = a at *
     have HFb := Lib.hid ((show Fr w wr [] from ⟨HW.out _ HB.out, fun p hp => by cases hp⟩).box [.int .i64 a.1.1.1, .slice A1 a.1.1.2.length c1, .slice B1 a.1.2.length d1, .slice D1 a.2.length e1] 80)
     have HBa := Lib.hid ((Below.refl _ wr).alloc (Nat.le_refl _) (.cells #[.int .i64 a.1.1.1, .slice A1 a.1.1.2.length c1, .slice B1 a.1.2.length d1, .slice D1 a.2.length e1] 80))
     replace HBd := Lib.hid (bld_below HBd.out HBa.out)
     have hbr := HSz.out _ HB.out
     have hbr2 := HBa.out.size
     replace HB := Lib.hid (HB.out.trans (HBa.out.mono (by omega)))
     simp only [List.toArray] at HFb
     clear HBa
     go_upto_region 14 with fail
     generalize hgt : World.alloc wr _ = W at HFb HBd HB hbr2 ⊢
     clear hgt x0 x1 x2 x3
     have x0 := HFb.out.cellN 0 rfl 0 rfl
     have x1 := HFb.out.cellN 0 rfl 1 rfl
     have x2 := HFb.out.cellN 0 rfl 2 rfl
     have x3 := HFb.out.cellN 0 rfl 3 rfl
     go_wp2_with fail
     refine (hX.out _ HFb.out.bel).mono ?_
     rintro e' W5 ⟨rfl, hb⟩
     replace HBd := Lib.hid (bld_below HBd.out hb)
     have hbr3 := hb.size
     replace HB := Lib.hid (HB.out.trans (hb.mono (by omega)))
     have hWr := Lib.hid (bld_Write b b (p1 ++ linesS (r.2.take i)) (ln ++ [10]) W5 HBd.out (by simp only [List.length_append, List.length_cons, List.length_nil]; omega) (by omega))
     have HE := Lib.hid (show (⟨(ln ++ [10]).toArray⟩ : ByteArray) = ⟨ln.toArray⟩ ++ ⟨#[10]⟩ from by rw [show (⟨#[10]⟩ : ByteArray) = ⟨[10].toArray⟩ from rfl, str_append])
     rw [HE.out] at hWr
     have HN := Lib.hid (show p1 ++ linesS (r.2.take i) ++ (ln ++ [10]) = p1 ++ linesS (r.2.take (i + 1)) from by rw [HS.out]; simp)
     rw [HN.out] at hWr
     clear hb hX HFb HE HN HS HBd x0 x1 x2 x3
     go_wp2_with fail
     refine hWr.out.mono ?_
     rintro e' W6 ⟨⟨v6, rfl⟩, h6, hb⟩
     have HBd := Lib.hid h6
     replace HB := Lib.hid (HB.out.trans hb)
     clear h6 hb hWr
     go_wp2
     go_roundg (r.2.length - (i + 1))
     case measure => omega
     case rel => exact ⟨i + 1, by omega, by go_num, HBd, HB⟩
   have hltz : ¬ (i : Int) < (r.2.length : Int) := by omega
   have HEq := Lib.hid (show r.2.take i = r.2 from List.take_of_length_le (by omega))
   rw [HEq.out] at HBd
   clear HEq
   rw [HP4.out] at HBd
   have hbr := HSz.out _ HB.out
   have hSt := Lib.hid (Builder_String_any b b ps _ HBd.out (by omega))
   clear HP4 HTs HLs HSt HBd HC
   go_wp2_with fail
   refine hSt.out.mono ?_
   rintro e' W7 ⟨rfl, hb⟩
   replace HB := Lib.hid (HB.out.trans hb)
   clear hb hSt
   go_wp2
   go_ret2
   exact ⟨rfl, HW.out _ HB.out⟩
 · have HP2 := Lib.hid (show ([] : List UInt8) = ps from by rw [HPs.out, if_neg h3])
   have h3c : (ve != 0) = true := by simpa using h3
   clear HPs hH HAt HSt HLa HLs HTa HTs h3
   go_wp2
   go_ret2
   rw [← HP2.out]
   exact ⟨rfl, HF.out.bel⟩
end Go.Proofs.YtidgpkccjcddgaaGreatDoor.F
